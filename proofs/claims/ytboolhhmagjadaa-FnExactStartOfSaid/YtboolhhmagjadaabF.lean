/- The functions of this seat, as that machine runs them. -/
import Derived.Test.YtboolhhmagjadaaQC
import Derived.Test.YtboolhhmagjadaabX
set_option linter.unusedVariables false
set_option linter.unusedSimpArgs false
namespace Go.Q.S
open Go Go.Q Go.Proofs
def L9 : List CT := [.str]
theorem ty9 : H.ty 9 = some ⟨false, L9, []⟩ := by kernel_rfl
theorem wl9 {ds : List D} (h : WL H ds L9) : ∃ a0, ds = [D.str a0] ∧ a0.size ≤ maxLen := by
  unfold L9 at h
  obtain ⟨a0, _, rfl, b0, h⟩ := wl_str h
  obtain rfl := wl_nil h
  exact ⟨a0, rfl, b0⟩
def L50 : List CT := [.int .i64, .int .i64, .str, .sl 50]
theorem ty50 : H.ty 50 = some ⟨true, L50, [(0, 3), (1, 3), (2, 9), (3, 48)]⟩ := by kernel_rfl
theorem wl50 {ds : List D} (h : WL H ds L50) : ∃ a0 a1 a2 a3, ds = [D.int a0, D.int a1, D.str a2, D.sl a3] ∧ a2.size ≤ maxLen ∧ a3.length ≤ maxLen ∧ WRs H a3 L50 := by
  unfold L50 at h
  obtain ⟨a0, _, rfl, _, h⟩ := wl_int h
  obtain ⟨a1, _, rfl, _, h⟩ := wl_int h
  obtain ⟨a2, _, rfl, b2, h⟩ := wl_str h
  obtain ⟨a3, _, rfl, b3, c3, h⟩ := wl_sl ty50 h
  obtain rfl := wl_nil h
  exact ⟨a0, a1, a2, a3, rfl, b2, b3, c3⟩
def L111 : List CT := [.int .i64, .int .i64, .int .i64, .str, .sl 50, .int .i64, .int .i64, .str, .sl 50]
theorem ty111 : H.ty 111 = some ⟨true, L111, [(0, 3), (1, 50), (5, 50)]⟩ := by kernel_rfl
theorem wl111 {ds : List D} (h : WL H ds L111) : ∃ a0 a1 a2 a3 a4 a5 a6 a7 a8, ds = [D.int a0, D.int a1, D.int a2, D.str a3, D.sl a4, D.int a5, D.int a6, D.str a7, D.sl a8] ∧ a3.size ≤ maxLen ∧ a4.length ≤ maxLen ∧ WRs H a4 L50 ∧ a7.size ≤ maxLen ∧ a8.length ≤ maxLen ∧ WRs H a8 L50 := by
  unfold L111 at h
  obtain ⟨a0, _, rfl, _, h⟩ := wl_int h
  obtain ⟨a1, _, rfl, _, h⟩ := wl_int h
  obtain ⟨a2, _, rfl, _, h⟩ := wl_int h
  obtain ⟨a3, _, rfl, b3, h⟩ := wl_str h
  obtain ⟨a4, _, rfl, b4, c4, h⟩ := wl_sl ty50 h
  obtain ⟨a5, _, rfl, _, h⟩ := wl_int h
  obtain ⟨a6, _, rfl, _, h⟩ := wl_int h
  obtain ⟨a7, _, rfl, b7, h⟩ := wl_str h
  obtain ⟨a8, _, rfl, b8, c8, h⟩ := wl_sl ty50 h
  obtain rfl := wl_nil h
  exact ⟨a0, a1, a2, a3, a4, a5, a6, a7, a8, rfl, b3, b4, c4, b7, b8, c8⟩
def L53 : List CT := [.sl 9, .int .i64, .int .i64, .str, .sl 50, .int .i64, .int .i64, .str, .sl 50, .sl 111]
theorem ty53 : H.ty 53 = some ⟨true, L53, [(0, 30), (1, 50), (5, 50), (9, 31)]⟩ := by kernel_rfl
theorem wl53 {ds : List D} (h : WL H ds L53) : ∃ a0 a1 a2 a3 a4 a5 a6 a7 a8 a9, ds = [D.sl a0, D.int a1, D.int a2, D.str a3, D.sl a4, D.int a5, D.int a6, D.str a7, D.sl a8, D.sl a9] ∧ a0.length ≤ maxLen ∧ WRs H a0 L9 ∧ a3.size ≤ maxLen ∧ a4.length ≤ maxLen ∧ WRs H a4 L50 ∧ a7.size ≤ maxLen ∧ a8.length ≤ maxLen ∧ WRs H a8 L50 ∧ a9.length ≤ maxLen ∧ WRs H a9 L111 := by
  unfold L53 at h
  obtain ⟨a0, _, rfl, b0, c0, h⟩ := wl_sl ty9 h
  obtain ⟨a1, _, rfl, _, h⟩ := wl_int h
  obtain ⟨a2, _, rfl, _, h⟩ := wl_int h
  obtain ⟨a3, _, rfl, b3, h⟩ := wl_str h
  obtain ⟨a4, _, rfl, b4, c4, h⟩ := wl_sl ty50 h
  obtain ⟨a5, _, rfl, _, h⟩ := wl_int h
  obtain ⟨a6, _, rfl, _, h⟩ := wl_int h
  obtain ⟨a7, _, rfl, b7, h⟩ := wl_str h
  obtain ⟨a8, _, rfl, b8, c8, h⟩ := wl_sl ty50 h
  obtain ⟨a9, _, rfl, b9, c9, h⟩ := wl_sl ty111 h
  obtain rfl := wl_nil h
  exact ⟨a0, a1, a2, a3, a4, a5, a6, a7, a8, a9, rfl, b0, c0, b3, b4, c4, b7, b8, c8, b9, c9⟩
theorem q101 {rs rs' : Rows} (hl : rs.length ≤ maxLen) (hl' : rs'.length ≤ maxLen) (hW : WRs H rs L9) (hW' : WRs H rs' L9) : rn ⟨101, 0, 0⟩ [.sl rs, .sl rs'] = some (0, [.bool (eqb rs rs')]) := by
  show rn ⟨101, 0, 0⟩ _ = _
  rw [e101_0_0]
  by_cases hll : rs'.length = rs.length
  · have hf := eq_loop (F := fun i => rn ⟨101, 0, 1⟩ [.sl rs, .sl rs', .int (i : Int)]) (A := some (0, [])) (B := some (1, [])) hll (fun i hi => ?_) ?_
    · simp only [Int.natCast_zero] at hf
      rw [decide_eq_true (by omega : (rs.length : Int) = (rs'.length : Int))]
      simp only [Bool.not_true, cond_false]
      rw [hf]
      cases eqb rs rs' <;> rfl
    · have hi2 : i < rs'.length := by omega
      have hw := WRs_mem hW (List.getElem_mem hi)
      have hw' := WRs_mem hW' (List.getElem_mem hi2)
      obtain ⟨a0, hr, b0⟩ := wl9 hw
      obtain ⟨y0, hr', by0⟩ := wl9 hw'
      skip
      rw [e101_0_1]
      simp only [Int.toNat_natCast, rowAt_eq hi, rowAt_eq hi2, hr, hr', inbN, hi, hi2, decide_true, cond_true, Int.ofNat_lt, nth, List.getD_cons_zero, List.getD_cons_succ, D.I, D.S, D.L, D.B, wrap_succ hi hl]
      simp only [eqb_cons, eqb_nil, eqb_int, eqb_str, eqb_bool, eqb_sl, Bool.and_true]
      cases (decide (a0 = y0)) <;> rfl
    · skip
      rw [e101_0_1]
      simp
  · rw [decide_eq_false (by omega : ¬ (rs.length : Int) = (rs'.length : Int)), eqb_len (fun h => hll h.symm)]
    rfl
theorem q100 {rs rs' : Rows} (hl : rs.length ≤ maxLen) (hl' : rs'.length ≤ maxLen) (hW : WRs H rs L50) (hW' : WRs H rs' L50) (hel : ∀ r r', r ∈ rs → r' ∈ rs' → rn ⟨30, 0, 0⟩ (r ++ r') = some (0, [.bool (eqb r r')])) : rn ⟨100, 0, 0⟩ [.sl rs, .sl rs'] = some (0, [.bool (eqb rs rs')]) := by
  show rn ⟨100, 0, 0⟩ _ = _
  rw [e100_0_0]
  by_cases hll : rs'.length = rs.length
  · have hf := eq_loop (F := fun i => rn ⟨100, 0, 1⟩ [.sl rs, .sl rs', .int (i : Int)]) (A := some (0, [])) (B := some (1, [])) hll (fun i hi => ?_) ?_
    · simp only [Int.natCast_zero] at hf
      rw [decide_eq_true (by omega : (rs.length : Int) = (rs'.length : Int))]
      simp only [Bool.not_true, cond_false]
      rw [hf]
      cases eqb rs rs' <;> rfl
    · have hi2 : i < rs'.length := by omega
      have hw := WRs_mem hW (List.getElem_mem hi)
      have hw' := WRs_mem hW' (List.getElem_mem hi2)
      obtain ⟨a0, a1, a2, a3, hr, b2, b3, c3⟩ := wl50 hw
      obtain ⟨y0, y1, y2, y3, hr', by2, by3, cy3⟩ := wl50 hw'
      have hc := hel _ _ (List.getElem_mem hi) (List.getElem_mem hi2)
      rw [hr, hr'] at hc
      simp only [List.cons_append, List.nil_append] at hc
      skip
      skip
      rw [e100_0_1]
      simp only [Int.toNat_natCast, rowAt_eq hi, rowAt_eq hi2, hr, hr', inbN, hi, hi2, decide_true, cond_true, Int.ofNat_lt, nth, List.getD_cons_zero, List.getD_cons_succ, D.I, D.S, D.L, D.B, wrap_succ hi hl]
      simp only [hc, Option.bind_some, nth, List.getD_cons_zero, List.getD_cons_succ, D.I, D.S, D.L, D.B]
      cases (eqb [D.int a0, D.int a1, D.str a2, D.sl a3] [D.int y0, D.int y1, D.str y2, D.sl y3]) <;> rfl
    · skip
      rw [e100_0_1]
      simp
  · rw [decide_eq_false (by omega : ¬ (rs.length : Int) = (rs'.length : Int)), eqb_len (fun h => hll h.symm)]
    rfl
theorem q30 : ∀ (N : Nat) (ds es : List D), SizeOf.sizeOf ds < N → WL H ds L50 → WL H es L50 → rn ⟨30, 0, 0⟩ (ds ++ es) = some (0, [.bool (eqb ds es)])
  | 0, ds, es, hN, _, _ => absurd hN (Nat.not_lt_zero _)
  | N + 1, ds, es, hN, h, h' => by
    have h0 := h
    have h0' := h'
    obtain ⟨a0, a1, a2, a3, rfl, b2, b3, c3⟩ := wl50 h
    obtain ⟨y0, y1, y2, y3, rfl, by2, by3, cy3⟩ := wl50 h'
    show rn ⟨30, 0, 0⟩ [D.int a0, D.int a1, D.str a2, D.sl a3, D.int y0, D.int y1, D.str y2, D.sl y3] = _
    rw [e30_0_0]
    have e3 := q100 b3 by3 c3 cy3 (fun r r' hr hr' => q30 N r r' (by have h1 := size_row hr; simp only [List.cons.sizeOf_spec, D.sl.sizeOf_spec] at hN; omega) (WRs_mem c3 hr) (WRs_mem cy3 hr'))
    skip
    simp only [e3, Option.bind_some, nth, List.getD_cons_zero, List.getD_cons_succ, D.I, D.S, D.L, D.B]
    simp only [eq_step, eq_end, eqb_cons, eqb_nil, eqb_int, eqb_str, eqb_bool, eqb_sl, Bool.and_true, Bool.and_assoc]
theorem q157 {ds es : List D} (h : WL H ds L111) (h' : WL H es L111) : rn ⟨157, 0, 0⟩ (ds ++ es) = some (0, [.bool (eqb ds es)]) := by
  have h0 := h
  have h0' := h'
  obtain ⟨a0, a1, a2, a3, a4, a5, a6, a7, a8, rfl, b3, b4, c4, b7, b8, c8⟩ := wl111 h
  obtain ⟨y0, y1, y2, y3, y4, y5, y6, y7, y8, rfl, by3, by4, cy4, by7, by8, cy8⟩ := wl111 h'
  show rn ⟨157, 0, 0⟩ [D.int a0, D.int a1, D.int a2, D.str a3, D.sl a4, D.int a5, D.int a6, D.str a7, D.sl a8, D.int y0, D.int y1, D.int y2, D.str y3, D.sl y4, D.int y5, D.int y6, D.str y7, D.sl y8] = _
  rw [e157_0_0]
  have w1 : WL H [D.int a1, D.int a2, D.str a3, D.sl a4] L50 := WL.part 1 4 h0
  have w1p : WL H [D.int y1, D.int y2, D.str y3, D.sl y4] L50 := WL.part 1 4 h0'
  have e1 := q30 _ _ _ (Nat.lt_succ_self _) w1 w1p
  simp only [List.cons_append, List.nil_append] at e1
  skip
  have w5 : WL H [D.int a5, D.int a6, D.str a7, D.sl a8] L50 := WL.part 5 4 h0
  have w5p : WL H [D.int y5, D.int y6, D.str y7, D.sl y8] L50 := WL.part 5 4 h0'
  have e5 := q30 _ _ _ (Nat.lt_succ_self _) w5 w5p
  simp only [List.cons_append, List.nil_append] at e5
  skip
  simp only [e1, e5, Option.bind_some, nth, List.getD_cons_zero, List.getD_cons_succ, D.I, D.S, D.L, D.B]
  simp only [eq_step, eq_end, eqb_cons, eqb_nil, eqb_int, eqb_str, eqb_bool, eqb_sl, Bool.and_true, Bool.and_assoc]
theorem q102 {rs rs' : Rows} (hl : rs.length ≤ maxLen) (hl' : rs'.length ≤ maxLen) (hW : WRs H rs L111) (hW' : WRs H rs' L111) : rn ⟨102, 0, 0⟩ [.sl rs, .sl rs'] = some (0, [.bool (eqb rs rs')]) := by
  show rn ⟨102, 0, 0⟩ _ = _
  rw [e102_0_0]
  by_cases hll : rs'.length = rs.length
  · have hf := eq_loop (F := fun i => rn ⟨102, 0, 1⟩ [.sl rs, .sl rs', .int (i : Int)]) (A := some (0, [])) (B := some (1, [])) hll (fun i hi => ?_) ?_
    · simp only [Int.natCast_zero] at hf
      rw [decide_eq_true (by omega : (rs.length : Int) = (rs'.length : Int))]
      simp only [Bool.not_true, cond_false]
      rw [hf]
      cases eqb rs rs' <;> rfl
    · have hi2 : i < rs'.length := by omega
      have hw := WRs_mem hW (List.getElem_mem hi)
      have hw' := WRs_mem hW' (List.getElem_mem hi2)
      obtain ⟨a0, a1, a2, a3, a4, a5, a6, a7, a8, hr, b3, b4, c4, b7, b8, c8⟩ := wl111 hw
      obtain ⟨y0, y1, y2, y3, y4, y5, y6, y7, y8, hr', by3, by4, cy4, by7, by8, cy8⟩ := wl111 hw'
      have hc := q157 hw hw'
      rw [hr, hr'] at hc
      simp only [List.cons_append, List.nil_append] at hc
      skip
      skip
      rw [e102_0_1]
      simp only [Int.toNat_natCast, rowAt_eq hi, rowAt_eq hi2, hr, hr', inbN, hi, hi2, decide_true, cond_true, Int.ofNat_lt, nth, List.getD_cons_zero, List.getD_cons_succ, D.I, D.S, D.L, D.B, wrap_succ hi hl]
      simp only [hc, Option.bind_some, nth, List.getD_cons_zero, List.getD_cons_succ, D.I, D.S, D.L, D.B]
      cases (eqb [D.int a0, D.int a1, D.int a2, D.str a3, D.sl a4, D.int a5, D.int a6, D.str a7, D.sl a8] [D.int y0, D.int y1, D.int y2, D.str y3, D.sl y4, D.int y5, D.int y6, D.str y7, D.sl y8]) <;> rfl
    · skip
      rw [e102_0_1]
      simp
  · rw [decide_eq_false (by omega : ¬ (rs.length : Int) = (rs'.length : Int)), eqb_len (fun h => hll h.symm)]
    rfl
theorem q31 {ds es : List D} (h : WL H ds L53) (h' : WL H es L53) : rn ⟨31, 0, 0⟩ (ds ++ es) = some (0, [.bool (eqb ds es)]) := by
  have h0 := h
  have h0' := h'
  obtain ⟨a0, a1, a2, a3, a4, a5, a6, a7, a8, a9, rfl, b0, c0, b3, b4, c4, b7, b8, c8, b9, c9⟩ := wl53 h
  obtain ⟨y0, y1, y2, y3, y4, y5, y6, y7, y8, y9, rfl, by0, cy0, by3, by4, cy4, by7, by8, cy8, by9, cy9⟩ := wl53 h'
  show rn ⟨31, 0, 0⟩ [D.sl a0, D.int a1, D.int a2, D.str a3, D.sl a4, D.int a5, D.int a6, D.str a7, D.sl a8, D.sl a9, D.sl y0, D.int y1, D.int y2, D.str y3, D.sl y4, D.int y5, D.int y6, D.str y7, D.sl y8, D.sl y9] = _
  rw [e31_0_0]
  have e0 := q101 b0 by0 c0 cy0
  skip
  have w1 : WL H [D.int a1, D.int a2, D.str a3, D.sl a4] L50 := WL.part 1 4 h0
  have w1p : WL H [D.int y1, D.int y2, D.str y3, D.sl y4] L50 := WL.part 1 4 h0'
  have e1 := q30 _ _ _ (Nat.lt_succ_self _) w1 w1p
  simp only [List.cons_append, List.nil_append] at e1
  skip
  have w5 : WL H [D.int a5, D.int a6, D.str a7, D.sl a8] L50 := WL.part 5 4 h0
  have w5p : WL H [D.int y5, D.int y6, D.str y7, D.sl y8] L50 := WL.part 5 4 h0'
  have e5 := q30 _ _ _ (Nat.lt_succ_self _) w5 w5p
  simp only [List.cons_append, List.nil_append] at e5
  skip
  have e9 := q102 b9 by9 c9 cy9
  skip
  simp only [e0, e1, e5, e9, Option.bind_some, nth, List.getD_cons_zero, List.getD_cons_succ, D.I, D.S, D.L, D.B]
  simp only [eq_step, eq_end, eqb_cons, eqb_nil, eqb_int, eqb_str, eqb_bool, eqb_sl, Bool.and_true, Bool.and_assoc]
def L3 : List CT := [.int .i64]
theorem ty3 : H.ty 3 = some ⟨false, L3, []⟩ := by kernel_rfl
theorem wl3 {ds : List D} (h : WL H ds L3) : ∃ a0, ds = [D.int a0] := by
  unfold L3 at h
  obtain ⟨a0, _, rfl, _, h⟩ := wl_int h
  obtain rfl := wl_nil h
  exact ⟨a0, rfl⟩
theorem q48 {rs rs' : Rows} (hl : rs.length ≤ maxLen) (hl' : rs'.length ≤ maxLen) (hW : WRs H rs L3) (hW' : WRs H rs' L3) : rn ⟨48, 0, 0⟩ [.sl rs, .sl rs'] = some (0, [.bool (eqb rs rs')]) := by
  show rn ⟨48, 0, 0⟩ _ = _
  rw [e48_0_0]
  by_cases hll : rs'.length = rs.length
  · have hf := eq_loop (F := fun i => rn ⟨48, 0, 1⟩ [.sl rs, .sl rs', .int (i : Int)]) (A := some (0, [])) (B := some (1, [])) hll (fun i hi => ?_) ?_
    · simp only [Int.natCast_zero] at hf
      rw [decide_eq_true (by omega : (rs.length : Int) = (rs'.length : Int))]
      simp only [Bool.not_true, cond_false]
      rw [hf]
      cases eqb rs rs' <;> rfl
    · have hi2 : i < rs'.length := by omega
      have hw := WRs_mem hW (List.getElem_mem hi)
      have hw' := WRs_mem hW' (List.getElem_mem hi2)
      obtain ⟨a0, hr⟩ := wl3 hw
      obtain ⟨y0, hr'⟩ := wl3 hw'
      skip
      rw [e48_0_1]
      simp only [Int.toNat_natCast, rowAt_eq hi, rowAt_eq hi2, hr, hr', inbN, hi, hi2, decide_true, cond_true, Int.ofNat_lt, nth, List.getD_cons_zero, List.getD_cons_succ, D.I, D.S, D.L, D.B, wrap_succ hi hl]
      simp only [eqb_cons, eqb_nil, eqb_int, eqb_str, eqb_bool, eqb_sl, Bool.and_true]
      cases (decide (a0 = y0)) <;> rfl
    · skip
      rw [e48_0_1]
      simp
  · rw [decide_eq_false (by omega : ¬ (rs.length : Int) = (rs'.length : Int)), eqb_len (fun h => hll h.symm)]
    rfl
def L186 : List CT := [.int .i64, .sl 3]
theorem ty186 : H.ty 186 = some ⟨true, L186, [(0, 3), (1, 26)]⟩ := by kernel_rfl
theorem wl186 {ds : List D} (h : WL H ds L186) : ∃ a0 a1, ds = [D.int a0, D.sl a1] ∧ a1.length ≤ maxLen ∧ WRs H a1 L3 := by
  unfold L186 at h
  obtain ⟨a0, _, rfl, _, h⟩ := wl_int h
  obtain ⟨a1, _, rfl, b1, c1, h⟩ := wl_sl ty3 h
  obtain rfl := wl_nil h
  exact ⟨a0, a1, rfl, b1, c1⟩
def L74 : List CT := [.int .i64, .sl 186, .sl 9, .int .i64, .int .i64, .str, .sl 50, .sl 3]
theorem ty74 : H.ty 74 = some ⟨true, L74, [(0, 3), (1, 70), (2, 72)]⟩ := by kernel_rfl
theorem wl74 {ds : List D} (h : WL H ds L74) : ∃ a0 a1 a2 a3 a4 a5 a6 a7, ds = [D.int a0, D.sl a1, D.sl a2, D.int a3, D.int a4, D.str a5, D.sl a6, D.sl a7] ∧ a1.length ≤ maxLen ∧ WRs H a1 L186 ∧ a2.length ≤ maxLen ∧ WRs H a2 L9 ∧ a5.size ≤ maxLen ∧ a6.length ≤ maxLen ∧ WRs H a6 L50 ∧ a7.length ≤ maxLen ∧ WRs H a7 L3 := by
  unfold L74 at h
  obtain ⟨a0, _, rfl, _, h⟩ := wl_int h
  obtain ⟨a1, _, rfl, b1, c1, h⟩ := wl_sl ty186 h
  obtain ⟨a2, _, rfl, b2, c2, h⟩ := wl_sl ty9 h
  obtain ⟨a3, _, rfl, _, h⟩ := wl_int h
  obtain ⟨a4, _, rfl, _, h⟩ := wl_int h
  obtain ⟨a5, _, rfl, b5, h⟩ := wl_str h
  obtain ⟨a6, _, rfl, b6, c6, h⟩ := wl_sl ty50 h
  obtain ⟨a7, _, rfl, b7, c7, h⟩ := wl_sl ty3 h
  obtain rfl := wl_nil h
  exact ⟨a0, a1, a2, a3, a4, a5, a6, a7, rfl, b1, c1, b2, c2, b5, b6, c6, b7, c7⟩
theorem q161 {ds es : List D} (h : WL H ds L186) (h' : WL H es L186) : rn ⟨161, 0, 0⟩ (ds ++ es) = some (0, [.bool (eqb ds es)]) := by
  have h0 := h
  have h0' := h'
  obtain ⟨a0, a1, rfl, b1, c1⟩ := wl186 h
  obtain ⟨y0, y1, rfl, by1, cy1⟩ := wl186 h'
  show rn ⟨161, 0, 0⟩ [D.int a0, D.sl a1, D.int y0, D.sl y1] = _
  rw [e161_0_0]
  have e1 := q48 b1 by1 c1 cy1
  skip
  simp only [e1, Option.bind_some, nth, List.getD_cons_zero, List.getD_cons_succ, D.I, D.S, D.L, D.B]
  simp only [eq_step, eq_end, eqb_cons, eqb_nil, eqb_int, eqb_str, eqb_bool, eqb_sl, Bool.and_true, Bool.and_assoc]
theorem q109 {rs rs' : Rows} (hl : rs.length ≤ maxLen) (hl' : rs'.length ≤ maxLen) (hW : WRs H rs L186) (hW' : WRs H rs' L186) : rn ⟨109, 0, 0⟩ [.sl rs, .sl rs'] = some (0, [.bool (eqb rs rs')]) := by
  show rn ⟨109, 0, 0⟩ _ = _
  rw [e109_0_0]
  by_cases hll : rs'.length = rs.length
  · have hf := eq_loop (F := fun i => rn ⟨109, 0, 1⟩ [.sl rs, .sl rs', .int (i : Int)]) (A := some (0, [])) (B := some (1, [])) hll (fun i hi => ?_) ?_
    · simp only [Int.natCast_zero] at hf
      rw [decide_eq_true (by omega : (rs.length : Int) = (rs'.length : Int))]
      simp only [Bool.not_true, cond_false]
      rw [hf]
      cases eqb rs rs' <;> rfl
    · have hi2 : i < rs'.length := by omega
      have hw := WRs_mem hW (List.getElem_mem hi)
      have hw' := WRs_mem hW' (List.getElem_mem hi2)
      obtain ⟨a0, a1, hr, b1, c1⟩ := wl186 hw
      obtain ⟨y0, y1, hr', by1, cy1⟩ := wl186 hw'
      have hc := q161 hw hw'
      rw [hr, hr'] at hc
      simp only [List.cons_append, List.nil_append] at hc
      skip
      skip
      rw [e109_0_1]
      simp only [Int.toNat_natCast, rowAt_eq hi, rowAt_eq hi2, hr, hr', inbN, hi, hi2, decide_true, cond_true, Int.ofNat_lt, nth, List.getD_cons_zero, List.getD_cons_succ, D.I, D.S, D.L, D.B, wrap_succ hi hl]
      simp only [hc, Option.bind_some, nth, List.getD_cons_zero, List.getD_cons_succ, D.I, D.S, D.L, D.B]
      cases (eqb [D.int a0, D.sl a1] [D.int y0, D.sl y1]) <;> rfl
    · skip
      rw [e109_0_1]
      simp
  · rw [decide_eq_false (by omega : ¬ (rs.length : Int) = (rs'.length : Int)), eqb_len (fun h => hll h.symm)]
    rfl
def L72 : List CT := [.sl 9, .int .i64, .int .i64, .str, .sl 50, .sl 3]
theorem ty72 : H.ty 72 = some ⟨true, L72, [(0, 30), (1, 50), (5, 26)]⟩ := by kernel_rfl
theorem wl72 {ds : List D} (h : WL H ds L72) : ∃ a0 a1 a2 a3 a4 a5, ds = [D.sl a0, D.int a1, D.int a2, D.str a3, D.sl a4, D.sl a5] ∧ a0.length ≤ maxLen ∧ WRs H a0 L9 ∧ a3.size ≤ maxLen ∧ a4.length ≤ maxLen ∧ WRs H a4 L50 ∧ a5.length ≤ maxLen ∧ WRs H a5 L3 := by
  unfold L72 at h
  obtain ⟨a0, _, rfl, b0, c0, h⟩ := wl_sl ty9 h
  obtain ⟨a1, _, rfl, _, h⟩ := wl_int h
  obtain ⟨a2, _, rfl, _, h⟩ := wl_int h
  obtain ⟨a3, _, rfl, b3, h⟩ := wl_str h
  obtain ⟨a4, _, rfl, b4, c4, h⟩ := wl_sl ty50 h
  obtain ⟨a5, _, rfl, b5, c5, h⟩ := wl_sl ty3 h
  obtain rfl := wl_nil h
  exact ⟨a0, a1, a2, a3, a4, a5, rfl, b0, c0, b3, b4, c4, b5, c5⟩
theorem q49 {ds es : List D} (h : WL H ds L72) (h' : WL H es L72) : rn ⟨49, 0, 0⟩ (ds ++ es) = some (0, [.bool (eqb ds es)]) := by
  have h0 := h
  have h0' := h'
  obtain ⟨a0, a1, a2, a3, a4, a5, rfl, b0, c0, b3, b4, c4, b5, c5⟩ := wl72 h
  obtain ⟨y0, y1, y2, y3, y4, y5, rfl, by0, cy0, by3, by4, cy4, by5, cy5⟩ := wl72 h'
  show rn ⟨49, 0, 0⟩ [D.sl a0, D.int a1, D.int a2, D.str a3, D.sl a4, D.sl a5, D.sl y0, D.int y1, D.int y2, D.str y3, D.sl y4, D.sl y5] = _
  rw [e49_0_0]
  have e0 := q101 b0 by0 c0 cy0
  skip
  have w1 : WL H [D.int a1, D.int a2, D.str a3, D.sl a4] L50 := WL.part 1 4 h0
  have w1p : WL H [D.int y1, D.int y2, D.str y3, D.sl y4] L50 := WL.part 1 4 h0'
  have e1 := q30 _ _ _ (Nat.lt_succ_self _) w1 w1p
  simp only [List.cons_append, List.nil_append] at e1
  skip
  have e5 := q48 b5 by5 c5 cy5
  skip
  simp only [e0, e1, e5, Option.bind_some, nth, List.getD_cons_zero, List.getD_cons_succ, D.I, D.S, D.L, D.B]
  simp only [eq_step, eq_end, eqb_cons, eqb_nil, eqb_int, eqb_str, eqb_bool, eqb_sl, Bool.and_true, Bool.and_assoc]
theorem q40 {ds es : List D} (h : WL H ds L74) (h' : WL H es L74) : rn ⟨40, 0, 0⟩ (ds ++ es) = some (0, [.bool (eqb ds es)]) := by
  have h0 := h
  have h0' := h'
  obtain ⟨a0, a1, a2, a3, a4, a5, a6, a7, rfl, b1, c1, b2, c2, b5, b6, c6, b7, c7⟩ := wl74 h
  obtain ⟨y0, y1, y2, y3, y4, y5, y6, y7, rfl, by1, cy1, by2, cy2, by5, by6, cy6, by7, cy7⟩ := wl74 h'
  show rn ⟨40, 0, 0⟩ [D.int a0, D.sl a1, D.sl a2, D.int a3, D.int a4, D.str a5, D.sl a6, D.sl a7, D.int y0, D.sl y1, D.sl y2, D.int y3, D.int y4, D.str y5, D.sl y6, D.sl y7] = _
  rw [e40_0_0]
  have e1 := q109 b1 by1 c1 cy1
  skip
  have w2 : WL H [D.sl a2, D.int a3, D.int a4, D.str a5, D.sl a6, D.sl a7] L72 := WL.part 2 6 h0
  have w2p : WL H [D.sl y2, D.int y3, D.int y4, D.str y5, D.sl y6, D.sl y7] L72 := WL.part 2 6 h0'
  have e2 := q49 w2 w2p
  simp only [List.cons_append, List.nil_append] at e2
  skip
  simp only [e1, e2, Option.bind_some, nth, List.getD_cons_zero, List.getD_cons_succ, D.I, D.S, D.L, D.B]
  simp only [eq_step, eq_end, eqb_cons, eqb_nil, eqb_int, eqb_str, eqb_bool, eqb_sl, Bool.and_true, Bool.and_assoc]
def L67 : List CT := [.sl 3, .int .i64, .int .i64, .str, .sl 50, .int .i64, .int .i64, .str, .sl 50, .int .i64]
theorem ty67 : H.ty 67 = some ⟨true, L67, [(0, 26), (1, 50), (5, 50), (9, 3)]⟩ := by kernel_rfl
theorem wl67 {ds : List D} (h : WL H ds L67) : ∃ a0 a1 a2 a3 a4 a5 a6 a7 a8 a9, ds = [D.sl a0, D.int a1, D.int a2, D.str a3, D.sl a4, D.int a5, D.int a6, D.str a7, D.sl a8, D.int a9] ∧ a0.length ≤ maxLen ∧ WRs H a0 L3 ∧ a3.size ≤ maxLen ∧ a4.length ≤ maxLen ∧ WRs H a4 L50 ∧ a7.size ≤ maxLen ∧ a8.length ≤ maxLen ∧ WRs H a8 L50 := by
  unfold L67 at h
  obtain ⟨a0, _, rfl, b0, c0, h⟩ := wl_sl ty3 h
  obtain ⟨a1, _, rfl, _, h⟩ := wl_int h
  obtain ⟨a2, _, rfl, _, h⟩ := wl_int h
  obtain ⟨a3, _, rfl, b3, h⟩ := wl_str h
  obtain ⟨a4, _, rfl, b4, c4, h⟩ := wl_sl ty50 h
  obtain ⟨a5, _, rfl, _, h⟩ := wl_int h
  obtain ⟨a6, _, rfl, _, h⟩ := wl_int h
  obtain ⟨a7, _, rfl, b7, h⟩ := wl_str h
  obtain ⟨a8, _, rfl, b8, c8, h⟩ := wl_sl ty50 h
  obtain ⟨a9, _, rfl, _, h⟩ := wl_int h
  obtain rfl := wl_nil h
  exact ⟨a0, a1, a2, a3, a4, a5, a6, a7, a8, a9, rfl, b0, c0, b3, b4, c4, b7, b8, c8⟩
theorem q39 {ds es : List D} (h : WL H ds L67) (h' : WL H es L67) : rn ⟨39, 0, 0⟩ (ds ++ es) = some (0, [.bool (eqb ds es)]) := by
  have h0 := h
  have h0' := h'
  obtain ⟨a0, a1, a2, a3, a4, a5, a6, a7, a8, a9, rfl, b0, c0, b3, b4, c4, b7, b8, c8⟩ := wl67 h
  obtain ⟨y0, y1, y2, y3, y4, y5, y6, y7, y8, y9, rfl, by0, cy0, by3, by4, cy4, by7, by8, cy8⟩ := wl67 h'
  show rn ⟨39, 0, 0⟩ [D.sl a0, D.int a1, D.int a2, D.str a3, D.sl a4, D.int a5, D.int a6, D.str a7, D.sl a8, D.int a9, D.sl y0, D.int y1, D.int y2, D.str y3, D.sl y4, D.int y5, D.int y6, D.str y7, D.sl y8, D.int y9] = _
  rw [e39_0_0]
  have e0 := q48 b0 by0 c0 cy0
  skip
  have w1 : WL H [D.int a1, D.int a2, D.str a3, D.sl a4] L50 := WL.part 1 4 h0
  have w1p : WL H [D.int y1, D.int y2, D.str y3, D.sl y4] L50 := WL.part 1 4 h0'
  have e1 := q30 _ _ _ (Nat.lt_succ_self _) w1 w1p
  simp only [List.cons_append, List.nil_append] at e1
  skip
  have w5 : WL H [D.int a5, D.int a6, D.str a7, D.sl a8] L50 := WL.part 5 4 h0
  have w5p : WL H [D.int y5, D.int y6, D.str y7, D.sl y8] L50 := WL.part 5 4 h0'
  have e5 := q30 _ _ _ (Nat.lt_succ_self _) w5 w5p
  simp only [List.cons_append, List.nil_append] at e5
  skip
  simp only [e0, e1, e5, Option.bind_some, nth, List.getD_cons_zero, List.getD_cons_succ, D.I, D.S, D.L, D.B]
  simp only [eq_step, eq_end, eqb_cons, eqb_nil, eqb_int, eqb_str, eqb_bool, eqb_sl, Bool.and_true, Bool.and_assoc]
def L43 : List CT := [.int .i64, .int .i64, .str, .sl 43]
theorem ty43 : H.ty 43 = some ⟨true, L43, [(0, 3), (1, 3), (2, 9), (3, 41)]⟩ := by kernel_rfl
theorem wl43 {ds : List D} (h : WL H ds L43) : ∃ a0 a1 a2 a3, ds = [D.int a0, D.int a1, D.str a2, D.sl a3] ∧ a2.size ≤ maxLen ∧ a3.length ≤ maxLen ∧ WRs H a3 L43 := by
  unfold L43 at h
  obtain ⟨a0, _, rfl, _, h⟩ := wl_int h
  obtain ⟨a1, _, rfl, _, h⟩ := wl_int h
  obtain ⟨a2, _, rfl, b2, h⟩ := wl_str h
  obtain ⟨a3, _, rfl, b3, c3, h⟩ := wl_sl ty43 h
  obtain rfl := wl_nil h
  exact ⟨a0, a1, a2, a3, rfl, b2, b3, c3⟩
def L177 : List CT := [.int .i64, .int .i64, .int .i64, .str, .sl 43, .int .i64, .int .i64, .str, .sl 43]
theorem ty177 : H.ty 177 = some ⟨true, L177, [(0, 3), (1, 43), (5, 43)]⟩ := by kernel_rfl
theorem wl177 {ds : List D} (h : WL H ds L177) : ∃ a0 a1 a2 a3 a4 a5 a6 a7 a8, ds = [D.int a0, D.int a1, D.int a2, D.str a3, D.sl a4, D.int a5, D.int a6, D.str a7, D.sl a8] ∧ a3.size ≤ maxLen ∧ a4.length ≤ maxLen ∧ WRs H a4 L43 ∧ a7.size ≤ maxLen ∧ a8.length ≤ maxLen ∧ WRs H a8 L43 := by
  unfold L177 at h
  obtain ⟨a0, _, rfl, _, h⟩ := wl_int h
  obtain ⟨a1, _, rfl, _, h⟩ := wl_int h
  obtain ⟨a2, _, rfl, _, h⟩ := wl_int h
  obtain ⟨a3, _, rfl, b3, h⟩ := wl_str h
  obtain ⟨a4, _, rfl, b4, c4, h⟩ := wl_sl ty43 h
  obtain ⟨a5, _, rfl, _, h⟩ := wl_int h
  obtain ⟨a6, _, rfl, _, h⟩ := wl_int h
  obtain ⟨a7, _, rfl, b7, h⟩ := wl_str h
  obtain ⟨a8, _, rfl, b8, c8, h⟩ := wl_sl ty43 h
  obtain rfl := wl_nil h
  exact ⟨a0, a1, a2, a3, a4, a5, a6, a7, a8, rfl, b3, b4, c4, b7, b8, c8⟩
def L46 : List CT := [.sl 9, .int .i64, .int .i64, .str, .sl 43, .int .i64, .int .i64, .str, .sl 43, .sl 177]
theorem ty46 : H.ty 46 = some ⟨true, L46, [(0, 30), (1, 43), (5, 43), (9, 44)]⟩ := by kernel_rfl
theorem wl46 {ds : List D} (h : WL H ds L46) : ∃ a0 a1 a2 a3 a4 a5 a6 a7 a8 a9, ds = [D.sl a0, D.int a1, D.int a2, D.str a3, D.sl a4, D.int a5, D.int a6, D.str a7, D.sl a8, D.sl a9] ∧ a0.length ≤ maxLen ∧ WRs H a0 L9 ∧ a3.size ≤ maxLen ∧ a4.length ≤ maxLen ∧ WRs H a4 L43 ∧ a7.size ≤ maxLen ∧ a8.length ≤ maxLen ∧ WRs H a8 L43 ∧ a9.length ≤ maxLen ∧ WRs H a9 L177 := by
  unfold L46 at h
  obtain ⟨a0, _, rfl, b0, c0, h⟩ := wl_sl ty9 h
  obtain ⟨a1, _, rfl, _, h⟩ := wl_int h
  obtain ⟨a2, _, rfl, _, h⟩ := wl_int h
  obtain ⟨a3, _, rfl, b3, h⟩ := wl_str h
  obtain ⟨a4, _, rfl, b4, c4, h⟩ := wl_sl ty43 h
  obtain ⟨a5, _, rfl, _, h⟩ := wl_int h
  obtain ⟨a6, _, rfl, _, h⟩ := wl_int h
  obtain ⟨a7, _, rfl, b7, h⟩ := wl_str h
  obtain ⟨a8, _, rfl, b8, c8, h⟩ := wl_sl ty43 h
  obtain ⟨a9, _, rfl, b9, c9, h⟩ := wl_sl ty177 h
  obtain rfl := wl_nil h
  exact ⟨a0, a1, a2, a3, a4, a5, a6, a7, a8, a9, rfl, b0, c0, b3, b4, c4, b7, b8, c8, b9, c9⟩
theorem s92 {rs : Rows} (hl : rs.length ≤ maxLen) (hW : WRs H rs L9) {b : Int} (hb : Bd b) : rn ⟨92, 0, 0⟩ [.sl rs, .int b] = some (0, [.int (sub b (D.sz (.sl rs)))]) := by
  show rn ⟨92, 0, 0⟩ _ = _
  rw [e92_0_0]
  simp only [D.sz]
  refine sz_pay hb hl (F := fun c => (rn ⟨92, 0, 1⟩ [.sl rs, .int c, .int 0]).bind fun r1 => bif Nat.beq r1.1 0 then some (0, [.int ((nth r1.2 0).I)]) else bif Nat.beq r1.1 1 then some (0, [.int ((nth r1.2 0).I)]) else none) fun c hc h0 => ?_
  have := sz_loop (F := fun i b => rn ⟨92, 0, 1⟩ [.sl rs, .int b, .int (i : Int)]) (rows := rs) (fun i hi b hb h0 => ?_) (fun b hb => ?_) hc h0
  · simp only [Int.natCast_zero] at this
    show ((rn _ _).bind _ = _)
    rw [this]
    split
    · rfl
    · rename_i hh; rw [sub_neg _ (by omega)]; rfl
  · have hw := WRs_mem hW (List.getElem_mem hi)
    obtain ⟨a0, hr, b0⟩ := wl9 hw
    rw [hr] at hw
    have hz : szL [.str a0] = a0.size := by simp only [szL, D.sz]; rfl
    have hq : szL rs[i] = a0.size := by rw [hr]; simp only [szL, D.sz]; omega
    rw [hq]
    skip
    rw [e92_0_1]
    simp only [Int.toNat_natCast, rowAt_eq hi, hr, inbN, hi, decide_true, cond_true, Int.ofNat_lt, nth, List.getD_cons_zero, List.getD_cons_succ, D.I, D.S, D.L, D.B, wrap_succ hi hl]
    rcases sz_case hb b0 with ⟨hh, he⟩ | he
    · rw [decide_eq_true hh, if_neg (by rw [he]; decide)]; rfl
    · rw [he]
      by_cases hq : 0 ≤ sub b a0.size
      · rw [if_pos hq, decide_eq_false (by omega)]; rfl
      · rw [if_neg hq, decide_eq_true (by omega)]; rfl
  · skip
    rw [e92_0_1]
    simp
theorem s151 {rs : Rows} (hl : rs.length ≤ maxLen) (hW : WRs H rs L43) (hel : ∀ r ∈ rs, ∀ b, Bd b → rn ⟨93, 0, 0⟩ (r ++ [.int b]) = some (0, [.int (sub b (szL r))])) {b : Int} (hb : Bd b) : rn ⟨151, 0, 0⟩ [.sl rs, .int b] = some (0, [.int (sub b (D.sz (.sl rs)))]) := by
  show rn ⟨151, 0, 0⟩ _ = _
  rw [e151_0_0]
  simp only [D.sz]
  refine sz_pay hb hl (F := fun c => (rn ⟨151, 0, 1⟩ [.sl rs, .int c, .int 0]).bind fun r1 => bif Nat.beq r1.1 0 then some (0, [.int ((nth r1.2 0).I)]) else bif Nat.beq r1.1 1 then some (0, [.int ((nth r1.2 0).I)]) else none) fun c hc h0 => ?_
  have := sz_loop (F := fun i b => rn ⟨151, 0, 1⟩ [.sl rs, .int b, .int (i : Int)]) (rows := rs) (fun i hi b hb h0 => ?_) (fun b hb => ?_) hc h0
  · simp only [Int.natCast_zero] at this
    show ((rn _ _).bind _ = _)
    rw [this]
    split
    · rfl
    · rename_i hh; rw [sub_neg _ (by omega)]; rfl
  · have hw := WRs_mem hW (List.getElem_mem hi)
    obtain ⟨a0, a1, a2, a3, hr, b2, b3, c3⟩ := wl43 hw
    rw [hr] at hw
    have hc := hel rs[i] (List.getElem_mem hi) b hb
    generalize hq : szL rs[i] = q at hc ⊢
    rw [hr] at hc
    simp only [List.cons_append, List.nil_append] at hc
    skip
    rw [e151_0_1]
    simp only [Int.toNat_natCast, rowAt_eq hi, hr, inbN, hi, decide_true, cond_true, Int.ofNat_lt, nth, List.getD_cons_zero, List.getD_cons_succ, D.I, D.S, D.L, D.B, wrap_succ hi hl]
    rw [hc]
    simp only [Option.bind_some, nth, List.getD_cons_zero, List.getD_cons_succ, D.I, D.S, D.L, D.B]
    by_cases hq : 0 ≤ sub b q
    · rw [if_pos hq, decide_eq_false (by omega)]; rfl
    · rw [if_neg hq, decide_eq_true (by omega)]; rfl
  · skip
    rw [e151_0_1]
    simp
theorem s93 : ∀ (N : Nat) (ds : List D), SizeOf.sizeOf ds < N → WL H ds L43 → ∀ b, Bd b → rn ⟨93, 0, 0⟩ (ds ++ [.int b]) = some (0, [.int (sub b (szL ds))])
  | 0, ds, hN, _, _, _ => absurd hN (Nat.not_lt_zero _)
  | N + 1, ds, hN, h, b, hb => by
    have h0 := h
    obtain ⟨a0, a1, a2, a3, rfl, b2, b3, c3⟩ := wl43 h
    show rn ⟨93, 0, 0⟩ [D.int a0, D.int a1, D.str a2, D.sl a3, .int b] = _
    rw [e93_0_0]
    rcases sz_case (b := b) hb b2 with ⟨hh, he⟩ | he
    · simp only [decide_eq_true hh, cond_true, Bool.cond_self]
      exact sub_dead he hb (by simp only [szL, D.sz]; omega)
    simp only [he]
    have e3 := s151 (b := (sub b a2.size)) b3 c3 (fun r hr b hb => s93 N r (by have h1 := size_row hr; simp only [List.cons.sizeOf_spec, D.sl.sizeOf_spec] at hN; omega) (WRs_mem c3 hr) b hb) (Bd.sub hb _)
    skip
    simp only [e3, Option.bind_some, nth, List.getD_cons_zero, List.getD_cons_succ, D.I, D.S, D.L, D.B]
    rw [sz_end _ (Bd.sub (Bd.sub hb _) _)]
    rw [sz_step _ (Bd.sub hb _)]
    rw [sub_sub hb]
    exact sub_congr (by simp only [szL, D.sz] <;> omega)
theorem s152 {ds : List D} (h : WL H ds L177) {b : Int} (hb : Bd b) : rn ⟨152, 0, 0⟩ (ds ++ [.int b]) = some (0, [.int (sub b (szL ds))]) := by
  have h0 := h
  obtain ⟨a0, a1, a2, a3, a4, a5, a6, a7, a8, rfl, b3, b4, c4, b7, b8, c8⟩ := wl177 h
  show rn ⟨152, 0, 0⟩ [D.int a0, D.int a1, D.int a2, D.str a3, D.sl a4, D.int a5, D.int a6, D.str a7, D.sl a8, .int b] = _
  rw [e152_0_0]
  have w1 : WL H [D.int a1, D.int a2, D.str a3, D.sl a4] L43 := WL.part 1 4 h0
  have e1 := s93 _ _ (Nat.lt_succ_self _) w1 b hb
  simp only [List.cons_append, List.nil_append] at e1
  skip
  simp only [e1, Option.bind_some, nth, List.getD_cons_zero, List.getD_cons_succ, D.I, D.S, D.L, D.B]
  have w5 : WL H [D.int a5, D.int a6, D.str a7, D.sl a8] L43 := WL.part 5 4 h0
  have e5 := s93 _ _ (Nat.lt_succ_self _) w5 (sub b (szL [D.int a1, D.int a2, D.str a3, D.sl a4])) (Bd.sub hb _)
  simp only [List.cons_append, List.nil_append] at e5
  skip
  simp only [e5, Option.bind_some, nth, List.getD_cons_zero, List.getD_cons_succ, D.I, D.S, D.L, D.B]
  rw [sz_end _ (Bd.sub (Bd.sub hb _) _)]
  rw [sz_step _ (Bd.sub hb _)]
  rw [sub_sub hb]
  exact sub_congr (by simp only [szL, D.sz] <;> omega)
theorem s94 {rs : Rows} (hl : rs.length ≤ maxLen) (hW : WRs H rs L177) {b : Int} (hb : Bd b) : rn ⟨94, 0, 0⟩ [.sl rs, .int b] = some (0, [.int (sub b (D.sz (.sl rs)))]) := by
  show rn ⟨94, 0, 0⟩ _ = _
  rw [e94_0_0]
  simp only [D.sz]
  refine sz_pay hb hl (F := fun c => (rn ⟨94, 0, 1⟩ [.sl rs, .int c, .int 0]).bind fun r1 => bif Nat.beq r1.1 0 then some (0, [.int ((nth r1.2 0).I)]) else bif Nat.beq r1.1 1 then some (0, [.int ((nth r1.2 0).I)]) else none) fun c hc h0 => ?_
  have := sz_loop (F := fun i b => rn ⟨94, 0, 1⟩ [.sl rs, .int b, .int (i : Int)]) (rows := rs) (fun i hi b hb h0 => ?_) (fun b hb => ?_) hc h0
  · simp only [Int.natCast_zero] at this
    show ((rn _ _).bind _ = _)
    rw [this]
    split
    · rfl
    · rename_i hh; rw [sub_neg _ (by omega)]; rfl
  · have hw := WRs_mem hW (List.getElem_mem hi)
    obtain ⟨a0, a1, a2, a3, a4, a5, a6, a7, a8, hr, b3, b4, c4, b7, b8, c8⟩ := wl177 hw
    rw [hr] at hw
    have hc := s152 hw hb
    rw [← hr] at hc
    generalize hq : szL rs[i] = q at hc ⊢
    rw [hr] at hc
    simp only [List.cons_append, List.nil_append] at hc
    skip
    rw [e94_0_1]
    simp only [Int.toNat_natCast, rowAt_eq hi, hr, inbN, hi, decide_true, cond_true, Int.ofNat_lt, nth, List.getD_cons_zero, List.getD_cons_succ, D.I, D.S, D.L, D.B, wrap_succ hi hl]
    rw [hc]
    simp only [Option.bind_some, nth, List.getD_cons_zero, List.getD_cons_succ, D.I, D.S, D.L, D.B]
    by_cases hq : 0 ≤ sub b q
    · rw [if_pos hq, decide_eq_false (by omega)]; rfl
    · rw [if_neg hq, decide_eq_true (by omega)]; rfl
  · skip
    rw [e94_0_1]
    simp
theorem s26 {ds : List D} (h : WL H ds L46) {b : Int} (hb : Bd b) : rn ⟨26, 0, 0⟩ (ds ++ [.int b]) = some (0, [.int (sub b (szL ds))]) := by
  have h0 := h
  obtain ⟨a0, a1, a2, a3, a4, a5, a6, a7, a8, a9, rfl, b0, c0, b3, b4, c4, b7, b8, c8, b9, c9⟩ := wl46 h
  show rn ⟨26, 0, 0⟩ [D.sl a0, D.int a1, D.int a2, D.str a3, D.sl a4, D.int a5, D.int a6, D.str a7, D.sl a8, D.sl a9, .int b] = _
  rw [e26_0_0]
  have e0 := s92 (b := b) b0 c0 hb
  skip
  simp only [e0, Option.bind_some, nth, List.getD_cons_zero, List.getD_cons_succ, D.I, D.S, D.L, D.B]
  have w1 : WL H [D.int a1, D.int a2, D.str a3, D.sl a4] L43 := WL.part 1 4 h0
  have e1 := s93 _ _ (Nat.lt_succ_self _) w1 (sub b (D.sz (.sl a0))) (Bd.sub hb _)
  simp only [List.cons_append, List.nil_append] at e1
  skip
  simp only [e1, Option.bind_some, nth, List.getD_cons_zero, List.getD_cons_succ, D.I, D.S, D.L, D.B]
  have w5 : WL H [D.int a5, D.int a6, D.str a7, D.sl a8] L43 := WL.part 5 4 h0
  have e5 := s93 _ _ (Nat.lt_succ_self _) w5 (sub (sub b (D.sz (.sl a0))) (szL [D.int a1, D.int a2, D.str a3, D.sl a4])) (Bd.sub (Bd.sub hb _) _)
  simp only [List.cons_append, List.nil_append] at e5
  skip
  simp only [e5, Option.bind_some, nth, List.getD_cons_zero, List.getD_cons_succ, D.I, D.S, D.L, D.B]
  have e9 := s94 (b := (sub (sub (sub b (D.sz (.sl a0))) (szL [D.int a1, D.int a2, D.str a3, D.sl a4])) (szL [D.int a5, D.int a6, D.str a7, D.sl a8]))) b9 c9 (Bd.sub (Bd.sub (Bd.sub hb _) _) _)
  skip
  simp only [e9, Option.bind_some, nth, List.getD_cons_zero, List.getD_cons_succ, D.I, D.S, D.L, D.B]
  rw [sz_end _ (Bd.sub (Bd.sub (Bd.sub (Bd.sub hb _) _) _) _)]
  rw [sz_step _ (Bd.sub (Bd.sub (Bd.sub hb _) _) _)]
  rw [sub_sub (Bd.sub (Bd.sub hb _) _)]
  rw [sz_step _ (Bd.sub (Bd.sub hb _) _)]
  rw [sub_sub (Bd.sub hb _)]
  rw [sz_step _ (Bd.sub hb _)]
  rw [sub_sub hb]
  exact sub_congr (by simp only [szL, D.sz] <;> omega)
theorem s111 {rs : Rows} (hl : rs.length ≤ maxLen) (hW : WRs H rs L3) {b : Int} (hb : Bd b) : rn ⟨111, 0, 0⟩ [.sl rs, .int b] = some (0, [.int (sub b (D.sz (.sl rs)))]) := by
  show rn ⟨111, 0, 0⟩ _ = _
  rw [e111_0_0]
  simp only [D.sz]
  have hz : szR rs = 0 := by
    have : ∀ (l : Rows), WRs H l L3 → szR l = 0 := fun l => by
      induction l with
      | nil => intro _; rfl
      | cons r l ih =>
        intro hw
        simp only [WRs] at hw
        obtain ⟨a0, rfl⟩ := wl3 hw.1
        simp only [szR, szL, D.sz, ih hw.2]
    exact this rs hW
  rw [hz]
  exact sz_pay0 hb hl
def L185 : List CT := [.int .i64, .sl 3]
theorem ty185 : H.ty 185 = some ⟨true, L185, [(0, 3), (1, 26)]⟩ := by kernel_rfl
theorem wl185 {ds : List D} (h : WL H ds L185) : ∃ a0 a1, ds = [D.int a0, D.sl a1] ∧ a1.length ≤ maxLen ∧ WRs H a1 L3 := by
  unfold L185 at h
  obtain ⟨a0, _, rfl, _, h⟩ := wl_int h
  obtain ⟨a1, _, rfl, b1, c1, h⟩ := wl_sl ty3 h
  obtain rfl := wl_nil h
  exact ⟨a0, a1, rfl, b1, c1⟩
def L64 : List CT := [.int .i64, .sl 185, .sl 9, .int .i64, .int .i64, .str, .sl 43, .sl 3]
theorem ty64 : H.ty 64 = some ⟨true, L64, [(0, 3), (1, 60), (2, 62)]⟩ := by kernel_rfl
theorem wl64 {ds : List D} (h : WL H ds L64) : ∃ a0 a1 a2 a3 a4 a5 a6 a7, ds = [D.int a0, D.sl a1, D.sl a2, D.int a3, D.int a4, D.str a5, D.sl a6, D.sl a7] ∧ a1.length ≤ maxLen ∧ WRs H a1 L185 ∧ a2.length ≤ maxLen ∧ WRs H a2 L9 ∧ a5.size ≤ maxLen ∧ a6.length ≤ maxLen ∧ WRs H a6 L43 ∧ a7.length ≤ maxLen ∧ WRs H a7 L3 := by
  unfold L64 at h
  obtain ⟨a0, _, rfl, _, h⟩ := wl_int h
  obtain ⟨a1, _, rfl, b1, c1, h⟩ := wl_sl ty185 h
  obtain ⟨a2, _, rfl, b2, c2, h⟩ := wl_sl ty9 h
  obtain ⟨a3, _, rfl, _, h⟩ := wl_int h
  obtain ⟨a4, _, rfl, _, h⟩ := wl_int h
  obtain ⟨a5, _, rfl, b5, h⟩ := wl_str h
  obtain ⟨a6, _, rfl, b6, c6, h⟩ := wl_sl ty43 h
  obtain ⟨a7, _, rfl, b7, c7, h⟩ := wl_sl ty3 h
  obtain rfl := wl_nil h
  exact ⟨a0, a1, a2, a3, a4, a5, a6, a7, rfl, b1, c1, b2, c2, b5, b6, c6, b7, c7⟩
theorem s159 {ds : List D} (h : WL H ds L185) {b : Int} (hb : Bd b) : rn ⟨159, 0, 0⟩ (ds ++ [.int b]) = some (0, [.int (sub b (szL ds))]) := by
  have h0 := h
  obtain ⟨a0, a1, rfl, b1, c1⟩ := wl185 h
  show rn ⟨159, 0, 0⟩ [D.int a0, D.sl a1, .int b] = _
  rw [e159_0_0]
  have e1 := s111 (b := b) b1 c1 hb
  skip
  simp only [e1, Option.bind_some, nth, List.getD_cons_zero, List.getD_cons_succ, D.I, D.S, D.L, D.B]
  rw [sz_end _ (Bd.sub hb _)]
  exact sub_congr (by simp only [szL, D.sz] <;> omega)
theorem s107 {rs : Rows} (hl : rs.length ≤ maxLen) (hW : WRs H rs L185) {b : Int} (hb : Bd b) : rn ⟨107, 0, 0⟩ [.sl rs, .int b] = some (0, [.int (sub b (D.sz (.sl rs)))]) := by
  show rn ⟨107, 0, 0⟩ _ = _
  rw [e107_0_0]
  simp only [D.sz]
  refine sz_pay hb hl (F := fun c => (rn ⟨107, 0, 1⟩ [.sl rs, .int c, .int 0]).bind fun r1 => bif Nat.beq r1.1 0 then some (0, [.int ((nth r1.2 0).I)]) else bif Nat.beq r1.1 1 then some (0, [.int ((nth r1.2 0).I)]) else none) fun c hc h0 => ?_
  have := sz_loop (F := fun i b => rn ⟨107, 0, 1⟩ [.sl rs, .int b, .int (i : Int)]) (rows := rs) (fun i hi b hb h0 => ?_) (fun b hb => ?_) hc h0
  · simp only [Int.natCast_zero] at this
    show ((rn _ _).bind _ = _)
    rw [this]
    split
    · rfl
    · rename_i hh; rw [sub_neg _ (by omega)]; rfl
  · have hw := WRs_mem hW (List.getElem_mem hi)
    obtain ⟨a0, a1, hr, b1, c1⟩ := wl185 hw
    rw [hr] at hw
    have hc := s159 hw hb
    rw [← hr] at hc
    generalize hq : szL rs[i] = q at hc ⊢
    rw [hr] at hc
    simp only [List.cons_append, List.nil_append] at hc
    skip
    rw [e107_0_1]
    simp only [Int.toNat_natCast, rowAt_eq hi, hr, inbN, hi, decide_true, cond_true, Int.ofNat_lt, nth, List.getD_cons_zero, List.getD_cons_succ, D.I, D.S, D.L, D.B, wrap_succ hi hl]
    rw [hc]
    simp only [Option.bind_some, nth, List.getD_cons_zero, List.getD_cons_succ, D.I, D.S, D.L, D.B]
    by_cases hq : 0 ≤ sub b q
    · rw [if_pos hq, decide_eq_false (by omega)]; rfl
    · rw [if_neg hq, decide_eq_true (by omega)]; rfl
  · skip
    rw [e107_0_1]
    simp
def L62 : List CT := [.sl 9, .int .i64, .int .i64, .str, .sl 43, .sl 3]
theorem ty62 : H.ty 62 = some ⟨true, L62, [(0, 30), (1, 43), (5, 26)]⟩ := by kernel_rfl
theorem wl62 {ds : List D} (h : WL H ds L62) : ∃ a0 a1 a2 a3 a4 a5, ds = [D.sl a0, D.int a1, D.int a2, D.str a3, D.sl a4, D.sl a5] ∧ a0.length ≤ maxLen ∧ WRs H a0 L9 ∧ a3.size ≤ maxLen ∧ a4.length ≤ maxLen ∧ WRs H a4 L43 ∧ a5.length ≤ maxLen ∧ WRs H a5 L3 := by
  unfold L62 at h
  obtain ⟨a0, _, rfl, b0, c0, h⟩ := wl_sl ty9 h
  obtain ⟨a1, _, rfl, _, h⟩ := wl_int h
  obtain ⟨a2, _, rfl, _, h⟩ := wl_int h
  obtain ⟨a3, _, rfl, b3, h⟩ := wl_str h
  obtain ⟨a4, _, rfl, b4, c4, h⟩ := wl_sl ty43 h
  obtain ⟨a5, _, rfl, b5, c5, h⟩ := wl_sl ty3 h
  obtain rfl := wl_nil h
  exact ⟨a0, a1, a2, a3, a4, a5, rfl, b0, c0, b3, b4, c4, b5, c5⟩
theorem s44 {ds : List D} (h : WL H ds L62) {b : Int} (hb : Bd b) : rn ⟨44, 0, 0⟩ (ds ++ [.int b]) = some (0, [.int (sub b (szL ds))]) := by
  have h0 := h
  obtain ⟨a0, a1, a2, a3, a4, a5, rfl, b0, c0, b3, b4, c4, b5, c5⟩ := wl62 h
  show rn ⟨44, 0, 0⟩ [D.sl a0, D.int a1, D.int a2, D.str a3, D.sl a4, D.sl a5, .int b] = _
  rw [e44_0_0]
  have e0 := s92 (b := b) b0 c0 hb
  skip
  simp only [e0, Option.bind_some, nth, List.getD_cons_zero, List.getD_cons_succ, D.I, D.S, D.L, D.B]
  have w1 : WL H [D.int a1, D.int a2, D.str a3, D.sl a4] L43 := WL.part 1 4 h0
  have e1 := s93 _ _ (Nat.lt_succ_self _) w1 (sub b (D.sz (.sl a0))) (Bd.sub hb _)
  simp only [List.cons_append, List.nil_append] at e1
  skip
  simp only [e1, Option.bind_some, nth, List.getD_cons_zero, List.getD_cons_succ, D.I, D.S, D.L, D.B]
  have e5 := s111 (b := (sub (sub b (D.sz (.sl a0))) (szL [D.int a1, D.int a2, D.str a3, D.sl a4]))) b5 c5 (Bd.sub (Bd.sub hb _) _)
  skip
  simp only [e5, Option.bind_some, nth, List.getD_cons_zero, List.getD_cons_succ, D.I, D.S, D.L, D.B]
  rw [sz_end _ (Bd.sub (Bd.sub (Bd.sub hb _) _) _)]
  rw [sz_step _ (Bd.sub (Bd.sub hb _) _)]
  rw [sub_sub (Bd.sub hb _)]
  rw [sz_step _ (Bd.sub hb _)]
  rw [sub_sub hb]
  exact sub_congr (by simp only [szL, D.sz] <;> omega)
theorem s35 {ds : List D} (h : WL H ds L64) {b : Int} (hb : Bd b) : rn ⟨35, 0, 0⟩ (ds ++ [.int b]) = some (0, [.int (sub b (szL ds))]) := by
  have h0 := h
  obtain ⟨a0, a1, a2, a3, a4, a5, a6, a7, rfl, b1, c1, b2, c2, b5, b6, c6, b7, c7⟩ := wl64 h
  show rn ⟨35, 0, 0⟩ [D.int a0, D.sl a1, D.sl a2, D.int a3, D.int a4, D.str a5, D.sl a6, D.sl a7, .int b] = _
  rw [e35_0_0]
  have e1 := s107 (b := b) b1 c1 hb
  skip
  simp only [e1, Option.bind_some, nth, List.getD_cons_zero, List.getD_cons_succ, D.I, D.S, D.L, D.B]
  have w2 : WL H [D.sl a2, D.int a3, D.int a4, D.str a5, D.sl a6, D.sl a7] L62 := WL.part 2 6 h0
  have e2 := s44 w2 (b := (sub b (D.sz (.sl a1)))) (Bd.sub hb _)
  simp only [List.cons_append, List.nil_append] at e2
  skip
  simp only [e2, Option.bind_some, nth, List.getD_cons_zero, List.getD_cons_succ, D.I, D.S, D.L, D.B]
  rw [sz_end _ (Bd.sub (Bd.sub hb _) _)]
  rw [sz_step _ (Bd.sub hb _)]
  rw [sub_sub hb]
  exact sub_congr (by simp only [szL, D.sz] <;> omega)
theorem c96 {rs : Rows} (hz : rs.length + szR rs ≤ 1048576) (hW : WRs H rs L9) : rn ⟨96, 0, 0⟩ [.sl rs] = some (0, [.sl rs]) := by
  show rn ⟨96, 0, 0⟩ _ = _
  rw [e96_0_0]
  have hf := fill_loop (F := fun i y => rn ⟨96, 0, 1⟩ [.sl rs, .int (i : Int), .sl y]) (rows := rs) (w := 1) (z := [.str (⟨#[]⟩ : ByteArray)]) rfl (fun r hr => (WRs_mem hW hr).len) (fun i hi y hy hyw => ?_) (fun y => ?_)
  · simp only [Int.natCast_zero] at hf
    rw [decide_eq_true (by omega : (0 : Int) ≤ (rs.length : Int)), decide_eq_true (by unfold M63; omega : (rs.length : Int) ≤ (M63 : Int)), decide_eq_true rfl]
    simp only [Bool.and_self, cond_true, Int.toNat_natCast]
    rw [hf]
    rfl
  · have hw := WRs_mem hW (List.getElem_mem hi)
    have hzi := szR_mem (List.getElem_mem hi)
    obtain ⟨a0, hr, b0⟩ := wl9 hw
    rw [hr] at hw hzi
    skip
    rw [e96_0_1]
    have hlen : rs.length ≤ maxLen := by unfold maxLen; omega
    have hi2 : i < y.length := by omega
    have hov : ∀ l : List D, l.length = 1 → over 0 l (rowAt y i) = l := fun l hl => over0_eq (by rw [rowAt_eq hi2, hyw _ (List.getElem_mem hi2), hl])
    simp only [Int.toNat_natCast, rowAt_eq hi, hr, inbN, hi, hi2, decide_true, cond_true, Int.ofNat_lt, nth, List.getD_cons_zero, List.getD_cons_succ, D.I, D.S, D.L, D.B, wrap_succ hi hlen]
    rw [hov _ rfl]
  · skip
    rw [e96_0_1]
    simp
theorem c154 {rs : Rows} (hz : rs.length + szR rs ≤ 1048576) (hW : WRs H rs L43) {N : Nat} (hN : ∀ r ∈ rs, SizeOf.sizeOf r < N) (hel : ∀ (a0 : Int) (a1 : Int) (a2 : ByteArray) (a3 : Rows), SizeOf.sizeOf ([D.int a0, D.int a1, D.str a2, D.sl a3] : List D) < N → szL [D.int a0, D.int a1, D.str a2, D.sl a3] ≤ 1048576 → WL H [D.int a0, D.int a1, D.str a2, D.sl a3] L43 → rn ⟨97, 0, 0⟩ [D.int a0, D.int a1, D.str a2, D.sl a3] = some (0, [D.int a0, D.int a1, D.str a2, D.sl a3])) : rn ⟨154, 0, 0⟩ [.sl rs] = some (0, [.sl rs]) := by
  show rn ⟨154, 0, 0⟩ _ = _
  rw [e154_0_0]
  have hf := fill_loop (F := fun i y => rn ⟨154, 0, 1⟩ [.sl rs, .int (i : Int), .sl y]) (rows := rs) (w := 4) (z := [.int 0, .int 0, .str (⟨#[]⟩ : ByteArray), .sl []]) rfl (fun r hr => (WRs_mem hW hr).len) (fun i hi y hy hyw => ?_) (fun y => ?_)
  · simp only [Int.natCast_zero] at hf
    rw [decide_eq_true (by omega : (0 : Int) ≤ (rs.length : Int)), decide_eq_true (by unfold M63; omega : (rs.length : Int) ≤ (M63 : Int)), decide_eq_true rfl]
    simp only [Bool.and_self, cond_true, Int.toNat_natCast]
    rw [hf]
    rfl
  · have hw := WRs_mem hW (List.getElem_mem hi)
    have hzi := szR_mem (List.getElem_mem hi)
    obtain ⟨a0, a1, a2, a3, hr, b2, b3, c3⟩ := wl43 hw
    have hNi := hN _ (List.getElem_mem hi)
    rw [hr] at hw hzi hNi
    have hc := hel a0 a1 a2 a3 hNi (by omega) hw
    skip
    skip
    rw [e154_0_1]
    have hlen : rs.length ≤ maxLen := by unfold maxLen; omega
    have hi2 : i < y.length := by omega
    have hov : ∀ l : List D, l.length = 4 → over 0 l (rowAt y i) = l := fun l hl => over0_eq (by rw [rowAt_eq hi2, hyw _ (List.getElem_mem hi2), hl])
    simp only [Int.toNat_natCast, rowAt_eq hi, hr, inbN, hi, hi2, decide_true, cond_true, Int.ofNat_lt, nth, List.getD_cons_zero, List.getD_cons_succ, D.I, D.S, D.L, D.B, wrap_succ hi hlen]
    simp only [hc, Option.bind_some, nth, List.getD_cons_zero, List.getD_cons_succ, D.I, D.S, D.L, D.B]
    rw [hov _ rfl]
  · skip
    rw [e154_0_1]
    simp
theorem c97 : ∀ (N : Nat) (a0 : Int) (a1 : Int) (a2 : ByteArray) (a3 : Rows), SizeOf.sizeOf ([D.int a0, D.int a1, D.str a2, D.sl a3] : List D) < N → szL [D.int a0, D.int a1, D.str a2, D.sl a3] ≤ 1048576 → WL H [D.int a0, D.int a1, D.str a2, D.sl a3] L43 → rn ⟨97, 0, 0⟩ [D.int a0, D.int a1, D.str a2, D.sl a3] = some (0, [D.int a0, D.int a1, D.str a2, D.sl a3])
  | 0, a0, a1, a2, a3, hN, _, _ => absurd hN (Nat.not_lt_zero _)
  | N + 1, a0, a1, a2, a3, hN, hz, h => by
    obtain ⟨x0, x1, x2, x3, hh, bx2, bx3, cx3⟩ := wl43 h
    simp only [List.cons.injEq, D.int.injEq, D.bool.injEq, D.str.injEq, D.sl.injEq, and_true] at hh
    obtain ⟨rfl, rfl, rfl, rfl⟩ := hh
    show rn ⟨97, 0, 0⟩ _ = _
    rw [e97_0_0]
    simp only [szL, D.sz] at hz
    have e3 : rn ⟨154, 0, 0⟩ [.sl a3] = some (0, [.sl a3]) := c154 (by omega) cx3 (N := N) (fun r hr => by have h1 := size_row hr; simp only [List.cons.sizeOf_spec, D.sl.sizeOf_spec] at hN; omega) (c97 N)
    skip
    all_goals simp only [e3, Option.bind_some, nth, List.getD_cons_zero, List.getD_cons_succ, D.I, D.S, D.L, D.B]
theorem c155 {a0 : Int} {a1 : Int} {a2 : Int} {a3 : ByteArray} {a4 : Rows} {a5 : Int} {a6 : Int} {a7 : ByteArray} {a8 : Rows} (hz : szL [D.int a0, D.int a1, D.int a2, D.str a3, D.sl a4, D.int a5, D.int a6, D.str a7, D.sl a8] ≤ 1048576) (h : WL H [D.int a0, D.int a1, D.int a2, D.str a3, D.sl a4, D.int a5, D.int a6, D.str a7, D.sl a8] L177) : rn ⟨155, 0, 0⟩ [D.int a0, D.int a1, D.int a2, D.str a3, D.sl a4, D.int a5, D.int a6, D.str a7, D.sl a8] = some (0, [D.int a0, D.int a1, D.int a2, D.str a3, D.int a5, D.int a6, D.str a7, D.sl a4, D.sl a8]) := by
  obtain ⟨x0, x1, x2, x3, x4, x5, x6, x7, x8, hh, bx3, bx4, cx4, bx7, bx8, cx8⟩ := wl177 h
  simp only [List.cons.injEq, D.int.injEq, D.bool.injEq, D.str.injEq, D.sl.injEq, and_true] at hh
  obtain ⟨rfl, rfl, rfl, rfl, rfl, rfl, rfl, rfl, rfl⟩ := hh
  show rn ⟨155, 0, 0⟩ _ = _
  rw [e155_0_0]
  simp only [szL, D.sz] at hz
  have w1 : WL H [D.int a1, D.int a2, D.str a3, D.sl a4] L43 := WL.part 1 4 h
  have e1 := c97 _ a1 a2 a3 a4 (Nat.lt_succ_self _) (by simp only [szL, D.sz]; omega) w1
  skip
  have w5 : WL H [D.int a5, D.int a6, D.str a7, D.sl a8] L43 := WL.part 5 4 h
  have e5 := c97 _ a5 a6 a7 a8 (Nat.lt_succ_self _) (by simp only [szL, D.sz]; omega) w5
  skip
  all_goals simp only [e1, e5, Option.bind_some, nth, List.getD_cons_zero, List.getD_cons_succ, D.I, D.S, D.L, D.B]
theorem c98 {rs : Rows} (hz : rs.length + szR rs ≤ 1048576) (hW : WRs H rs L177) : rn ⟨98, 0, 0⟩ [.sl rs] = some (0, [.sl rs]) := by
  show rn ⟨98, 0, 0⟩ _ = _
  rw [e98_0_0]
  have hf := fill_loop (F := fun i y => rn ⟨98, 0, 1⟩ [.sl rs, .int (i : Int), .sl y]) (rows := rs) (w := 9) (z := [.int 0, .int 0, .int 0, .str (⟨#[]⟩ : ByteArray), .sl [], .int 0, .int 0, .str (⟨#[]⟩ : ByteArray), .sl []]) rfl (fun r hr => (WRs_mem hW hr).len) (fun i hi y hy hyw => ?_) (fun y => ?_)
  · simp only [Int.natCast_zero] at hf
    rw [decide_eq_true (by omega : (0 : Int) ≤ (rs.length : Int)), decide_eq_true (by unfold M63; omega : (rs.length : Int) ≤ (M63 : Int)), decide_eq_true rfl]
    simp only [Bool.and_self, cond_true, Int.toNat_natCast]
    rw [hf]
    rfl
  · have hw := WRs_mem hW (List.getElem_mem hi)
    have hzi := szR_mem (List.getElem_mem hi)
    obtain ⟨a0, a1, a2, a3, a4, a5, a6, a7, a8, hr, b3, b4, c4, b7, b8, c8⟩ := wl177 hw
    rw [hr] at hw hzi
    have hc := c155 (by omega) hw
    skip
    skip
    rw [e98_0_1]
    have hlen : rs.length ≤ maxLen := by unfold maxLen; omega
    have hi2 : i < y.length := by omega
    have hov : ∀ l : List D, l.length = 9 → over 0 l (rowAt y i) = l := fun l hl => over0_eq (by rw [rowAt_eq hi2, hyw _ (List.getElem_mem hi2), hl])
    simp only [Int.toNat_natCast, rowAt_eq hi, hr, inbN, hi, hi2, decide_true, cond_true, Int.ofNat_lt, nth, List.getD_cons_zero, List.getD_cons_succ, D.I, D.S, D.L, D.B, wrap_succ hi hlen]
    simp only [hc, Option.bind_some, nth, List.getD_cons_zero, List.getD_cons_succ, D.I, D.S, D.L, D.B]
    rw [hov _ rfl]
  · skip
    rw [e98_0_1]
    simp
theorem c28 {a0 : Rows} {a1 : Int} {a2 : Int} {a3 : ByteArray} {a4 : Rows} {a5 : Int} {a6 : Int} {a7 : ByteArray} {a8 : Rows} {a9 : Rows} (hz : szL [D.sl a0, D.int a1, D.int a2, D.str a3, D.sl a4, D.int a5, D.int a6, D.str a7, D.sl a8, D.sl a9] ≤ 1048576) (h : WL H [D.sl a0, D.int a1, D.int a2, D.str a3, D.sl a4, D.int a5, D.int a6, D.str a7, D.sl a8, D.sl a9] L46) : rn ⟨28, 0, 0⟩ [D.sl a0, D.int a1, D.int a2, D.str a3, D.sl a4, D.int a5, D.int a6, D.str a7, D.sl a8, D.sl a9] = some (0, [D.int a1, D.int a2, D.str a3, D.int a5, D.int a6, D.str a7, D.sl a0, D.sl a4, D.sl a8, D.sl a9]) := by
  obtain ⟨x0, x1, x2, x3, x4, x5, x6, x7, x8, x9, hh, bx0, cx0, bx3, bx4, cx4, bx7, bx8, cx8, bx9, cx9⟩ := wl46 h
  simp only [List.cons.injEq, D.int.injEq, D.bool.injEq, D.str.injEq, D.sl.injEq, and_true] at hh
  obtain ⟨rfl, rfl, rfl, rfl, rfl, rfl, rfl, rfl, rfl, rfl⟩ := hh
  show rn ⟨28, 0, 0⟩ _ = _
  rw [e28_0_0]
  simp only [szL, D.sz] at hz
  have e0 := c96 (rs := a0) (by omega) cx0
  skip
  have w1 : WL H [D.int a1, D.int a2, D.str a3, D.sl a4] L43 := WL.part 1 4 h
  have e1 := c97 _ a1 a2 a3 a4 (Nat.lt_succ_self _) (by simp only [szL, D.sz]; omega) w1
  skip
  have w5 : WL H [D.int a5, D.int a6, D.str a7, D.sl a8] L43 := WL.part 5 4 h
  have e5 := c97 _ a5 a6 a7 a8 (Nat.lt_succ_self _) (by simp only [szL, D.sz]; omega) w5
  skip
  have e9 := c98 (rs := a9) (by omega) cx9
  skip
  all_goals simp only [e0, e1, e5, e9, Option.bind_some, nth, List.getD_cons_zero, List.getD_cons_succ, D.I, D.S, D.L, D.B]
theorem c112 {rs : Rows} (hz : rs.length + szR rs ≤ 1048576) (hW : WRs H rs L3) : rn ⟨112, 0, 0⟩ [.sl rs] = some (0, [.sl rs]) := by
  show rn ⟨112, 0, 0⟩ _ = _
  rw [e112_0_0]
  have hf := fill_loop (F := fun i y => rn ⟨112, 0, 1⟩ [.sl rs, .int (i : Int), .sl y]) (rows := rs) (w := 1) (z := [.int 0]) rfl (fun r hr => (WRs_mem hW hr).len) (fun i hi y hy hyw => ?_) (fun y => ?_)
  · simp only [Int.natCast_zero] at hf
    rw [decide_eq_true (by omega : (0 : Int) ≤ (rs.length : Int)), decide_eq_true (by unfold M63; omega : (rs.length : Int) ≤ (M63 : Int)), decide_eq_true rfl]
    simp only [Bool.and_self, cond_true, Int.toNat_natCast]
    rw [hf]
    rfl
  · have hw := WRs_mem hW (List.getElem_mem hi)
    have hzi := szR_mem (List.getElem_mem hi)
    obtain ⟨a0, hr⟩ := wl3 hw
    rw [hr] at hw hzi
    skip
    rw [e112_0_1]
    have hlen : rs.length ≤ maxLen := by unfold maxLen; omega
    have hi2 : i < y.length := by omega
    have hov : ∀ l : List D, l.length = 1 → over 0 l (rowAt y i) = l := fun l hl => over0_eq (by rw [rowAt_eq hi2, hyw _ (List.getElem_mem hi2), hl])
    simp only [Int.toNat_natCast, rowAt_eq hi, hr, inbN, hi, hi2, decide_true, cond_true, Int.ofNat_lt, nth, List.getD_cons_zero, List.getD_cons_succ, D.I, D.S, D.L, D.B, wrap_succ hi hlen]
    rw [hov _ rfl]
  · skip
    rw [e112_0_1]
    simp
theorem c160 {a0 : Int} {a1 : Rows} (hz : szL [D.int a0, D.sl a1] ≤ 1048576) (h : WL H [D.int a0, D.sl a1] L185) : rn ⟨160, 0, 0⟩ [D.int a0, D.sl a1] = some (0, [D.int a0, D.sl a1]) := by
  obtain ⟨x0, x1, hh, bx1, cx1⟩ := wl185 h
  simp only [List.cons.injEq, D.int.injEq, D.bool.injEq, D.str.injEq, D.sl.injEq, and_true] at hh
  obtain ⟨rfl, rfl⟩ := hh
  show rn ⟨160, 0, 0⟩ _ = _
  rw [e160_0_0]
  simp only [szL, D.sz] at hz
  have e1 := c112 (rs := a1) (by omega) cx1
  skip
  all_goals simp only [e1, Option.bind_some, nth, List.getD_cons_zero, List.getD_cons_succ, D.I, D.S, D.L, D.B]
theorem c108 {rs : Rows} (hz : rs.length + szR rs ≤ 1048576) (hW : WRs H rs L185) : rn ⟨108, 0, 0⟩ [.sl rs] = some (0, [.sl rs]) := by
  show rn ⟨108, 0, 0⟩ _ = _
  rw [e108_0_0]
  have hf := fill_loop (F := fun i y => rn ⟨108, 0, 1⟩ [.sl rs, .int (i : Int), .sl y]) (rows := rs) (w := 2) (z := [.int 0, .sl []]) rfl (fun r hr => (WRs_mem hW hr).len) (fun i hi y hy hyw => ?_) (fun y => ?_)
  · simp only [Int.natCast_zero] at hf
    rw [decide_eq_true (by omega : (0 : Int) ≤ (rs.length : Int)), decide_eq_true (by unfold M63; omega : (rs.length : Int) ≤ (M63 : Int)), decide_eq_true rfl]
    simp only [Bool.and_self, cond_true, Int.toNat_natCast]
    rw [hf]
    rfl
  · have hw := WRs_mem hW (List.getElem_mem hi)
    have hzi := szR_mem (List.getElem_mem hi)
    obtain ⟨a0, a1, hr, b1, c1⟩ := wl185 hw
    rw [hr] at hw hzi
    have hc := c160 (by omega) hw
    skip
    skip
    rw [e108_0_1]
    have hlen : rs.length ≤ maxLen := by unfold maxLen; omega
    have hi2 : i < y.length := by omega
    have hov : ∀ l : List D, l.length = 2 → over 0 l (rowAt y i) = l := fun l hl => over0_eq (by rw [rowAt_eq hi2, hyw _ (List.getElem_mem hi2), hl])
    simp only [Int.toNat_natCast, rowAt_eq hi, hr, inbN, hi, hi2, decide_true, cond_true, Int.ofNat_lt, nth, List.getD_cons_zero, List.getD_cons_succ, D.I, D.S, D.L, D.B, wrap_succ hi hlen]
    simp only [hc, Option.bind_some, nth, List.getD_cons_zero, List.getD_cons_succ, D.I, D.S, D.L, D.B]
    rw [hov _ rfl]
  · skip
    rw [e108_0_1]
    simp
theorem c46 {a0 : Rows} {a1 : Int} {a2 : Int} {a3 : ByteArray} {a4 : Rows} {a5 : Rows} (hz : szL [D.sl a0, D.int a1, D.int a2, D.str a3, D.sl a4, D.sl a5] ≤ 1048576) (h : WL H [D.sl a0, D.int a1, D.int a2, D.str a3, D.sl a4, D.sl a5] L62) : rn ⟨46, 0, 0⟩ [D.sl a0, D.int a1, D.int a2, D.str a3, D.sl a4, D.sl a5] = some (0, [D.int a1, D.int a2, D.str a3, D.sl a0, D.sl a4, D.sl a5]) := by
  obtain ⟨x0, x1, x2, x3, x4, x5, hh, bx0, cx0, bx3, bx4, cx4, bx5, cx5⟩ := wl62 h
  simp only [List.cons.injEq, D.int.injEq, D.bool.injEq, D.str.injEq, D.sl.injEq, and_true] at hh
  obtain ⟨rfl, rfl, rfl, rfl, rfl, rfl⟩ := hh
  show rn ⟨46, 0, 0⟩ _ = _
  rw [e46_0_0]
  simp only [szL, D.sz] at hz
  have e0 := c96 (rs := a0) (by omega) cx0
  skip
  have w1 : WL H [D.int a1, D.int a2, D.str a3, D.sl a4] L43 := WL.part 1 4 h
  have e1 := c97 _ a1 a2 a3 a4 (Nat.lt_succ_self _) (by simp only [szL, D.sz]; omega) w1
  skip
  have e5 := c112 (rs := a5) (by omega) cx5
  skip
  all_goals simp only [e0, e1, e5, Option.bind_some, nth, List.getD_cons_zero, List.getD_cons_succ, D.I, D.S, D.L, D.B]
theorem c37 {a0 : Int} {a1 : Rows} {a2 : Rows} {a3 : Int} {a4 : Int} {a5 : ByteArray} {a6 : Rows} {a7 : Rows} (hz : szL [D.int a0, D.sl a1, D.sl a2, D.int a3, D.int a4, D.str a5, D.sl a6, D.sl a7] ≤ 1048576) (h : WL H [D.int a0, D.sl a1, D.sl a2, D.int a3, D.int a4, D.str a5, D.sl a6, D.sl a7] L64) : rn ⟨37, 0, 0⟩ [D.int a0, D.sl a1, D.sl a2, D.int a3, D.int a4, D.str a5, D.sl a6, D.sl a7] = some (0, [D.int a0, D.int a3, D.int a4, D.str a5, D.sl a1, D.sl a2, D.sl a6, D.sl a7]) := by
  obtain ⟨x0, x1, x2, x3, x4, x5, x6, x7, hh, bx1, cx1, bx2, cx2, bx5, bx6, cx6, bx7, cx7⟩ := wl64 h
  simp only [List.cons.injEq, D.int.injEq, D.bool.injEq, D.str.injEq, D.sl.injEq, and_true] at hh
  obtain ⟨rfl, rfl, rfl, rfl, rfl, rfl, rfl, rfl⟩ := hh
  show rn ⟨37, 0, 0⟩ _ = _
  rw [e37_0_0]
  simp only [szL, D.sz] at hz
  have e1 := c108 (rs := a1) (by omega) cx1
  skip
  have w2 : WL H [D.sl a2, D.int a3, D.int a4, D.str a5, D.sl a6, D.sl a7] L62 := WL.part 2 6 h
  have e2 := c46 (by simp only [szL, D.sz]; omega) w2
  skip
  all_goals simp only [e1, e2, Option.bind_some, nth, List.getD_cons_zero, List.getD_cons_succ, D.I, D.S, D.L, D.B]
end Go.Q.S
