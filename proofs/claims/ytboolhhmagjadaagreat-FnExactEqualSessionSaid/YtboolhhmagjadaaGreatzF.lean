/- The functions of this seat, as that machine runs them. -/
import Derived.Test.YtboolhhmagjadaaGreatQC
import Derived.Test.YtboolhhmagjadaaGreatzX
set_option linter.unusedVariables false
set_option linter.unusedSimpArgs false
namespace Go.Q.S
open Go Go.Q Go.Proofs
noncomputable abbrev rn : Key → List D → R := run H Tryz.prog
def L53 : List CT := [.int .i64, .int .i64, .str, .sl 53]
theorem ty53 : H.ty 53 = some ⟨true, L53, [(0, 3), (1, 3), (2, 9), (3, 51)]⟩ := by kernel_rfl
theorem wl53 {ds : List D} (h : WL H ds L53) : ∃ a0 a1 a2 a3, ds = [D.int a0, D.int a1, D.str a2, D.sl a3] ∧ a2.size ≤ maxLen ∧ a3.length ≤ maxLen ∧ WRs H a3 L53 := by
  unfold L53 at h
  obtain ⟨a0, _, rfl, _, h⟩ := wl_int h
  obtain ⟨a1, _, rfl, _, h⟩ := wl_int h
  obtain ⟨a2, _, rfl, b2, h⟩ := wl_str h
  obtain ⟨a3, _, rfl, b3, c3, h⟩ := wl_sl ty53 h
  obtain rfl := wl_nil h
  exact ⟨a0, a1, a2, a3, rfl, b2, b3, c3⟩
def L121 : List CT := [.str, .int .i64, .int .i64, .str, .sl 53]
theorem ty121 : H.ty 121 = some ⟨true, L121, [(0, 9), (1, 53)]⟩ := by kernel_rfl
theorem wl121 {ds : List D} (h : WL H ds L121) : ∃ a0 a1 a2 a3 a4, ds = [D.str a0, D.int a1, D.int a2, D.str a3, D.sl a4] ∧ a0.size ≤ maxLen ∧ a3.size ≤ maxLen ∧ a4.length ≤ maxLen ∧ WRs H a4 L53 := by
  unfold L121 at h
  obtain ⟨a0, _, rfl, b0, h⟩ := wl_str h
  obtain ⟨a1, _, rfl, _, h⟩ := wl_int h
  obtain ⟨a2, _, rfl, _, h⟩ := wl_int h
  obtain ⟨a3, _, rfl, b3, h⟩ := wl_str h
  obtain ⟨a4, _, rfl, b4, c4, h⟩ := wl_sl ty53 h
  obtain rfl := wl_nil h
  exact ⟨a0, a1, a2, a3, a4, rfl, b0, b3, b4, c4⟩
theorem q192 {rs rs' : Rows} (hl : rs.length ≤ maxLen) (hl' : rs'.length ≤ maxLen) (hW : WRs H rs L53) (hW' : WRs H rs' L53) (hel : ∀ r r', r ∈ rs → r' ∈ rs' → rn ⟨158, 0, 0⟩ (r ++ r') = some (0, [.bool (eqb r r')])) : rn ⟨192, 0, 0⟩ [.sl rs, .sl rs'] = some (0, [.bool (eqb rs rs')]) := by
  show run H Tryz.prog ⟨192, 0, 0⟩ _ = _
  rw [run_eq, g192_0_0_eq, g192_0_0]
  by_cases hll : rs'.length = rs.length
  · have hf := eq_loop (F := fun i => rn ⟨192, 0, 1⟩ [.sl rs, .sl rs', .int (i : Int)]) (A := some (0, [])) (B := some (1, [])) hll (fun i hi => ?_) ?_
    · simp only [rn, Int.natCast_zero] at hf
      rw [decide_eq_true (by omega : (rs.length : Int) = (rs'.length : Int))]
      simp only [Bool.not_true, cond_false]
      rw [hf]
      cases eqb rs rs' <;> rfl
    · have hi2 : i < rs'.length := by omega
      have hw := WRs_mem hW (List.getElem_mem hi)
      have hw' := WRs_mem hW' (List.getElem_mem hi2)
      obtain ⟨a0, a1, a2, a3, hr, b2, b3, c3⟩ := wl53 hw
      obtain ⟨y0, y1, y2, y3, hr', by2, by3, cy3⟩ := wl53 hw'
      have hc := hel _ _ (List.getElem_mem hi) (List.getElem_mem hi2)
      rw [hr, hr'] at hc
      simp only [List.cons_append, List.nil_append] at hc
      simp only [rn] at hc
      simp only [rn]
      rw [run_eq, g192_0_1_eq, g192_0_1]
      simp only [Int.toNat_natCast, rowAt_eq hi, rowAt_eq hi2, hr, hr', inbN, hi, hi2, decide_true, cond_true, Int.ofNat_lt, nth, List.getD_cons_zero, List.getD_cons_succ, D.I, D.S, D.L, D.B, wrap_succ hi hl]
      simp only [hc, Option.bind_some, nth, List.getD_cons_zero, List.getD_cons_succ, D.I, D.S, D.L, D.B]
      cases (eqb [D.int a0, D.int a1, D.str a2, D.sl a3] [D.int y0, D.int y1, D.str y2, D.sl y3]) <;> rfl
    · simp only [rn]
      rw [run_eq, g192_0_1_eq, g192_0_1]
      simp
  · rw [decide_eq_false (by omega : ¬ (rs.length : Int) = (rs'.length : Int)), eqb_len (fun h => hll h.symm)]
    rfl
theorem q158 : ∀ (N : Nat) (ds es : List D), SizeOf.sizeOf ds < N → WL H ds L53 → WL H es L53 → rn ⟨158, 0, 0⟩ (ds ++ es) = some (0, [.bool (eqb ds es)])
  | 0, ds, es, hN, _, _ => absurd hN (Nat.not_lt_zero _)
  | N + 1, ds, es, hN, h, h' => by
    have h0 := h
    have h0' := h'
    obtain ⟨a0, a1, a2, a3, rfl, b2, b3, c3⟩ := wl53 h
    obtain ⟨y0, y1, y2, y3, rfl, by2, by3, cy3⟩ := wl53 h'
    show run H Tryz.prog ⟨158, 0, 0⟩ [D.int a0, D.int a1, D.str a2, D.sl a3, D.int y0, D.int y1, D.str y2, D.sl y3] = _
    rw [run_eq, g158_0_0_eq, g158_0_0]
    have e3 := q192 b3 by3 c3 cy3 (fun r r' hr hr' => q158 N r r' (by have h1 := size_row hr; simp only [List.cons.sizeOf_spec, D.sl.sizeOf_spec] at hN; omega) (WRs_mem c3 hr) (WRs_mem cy3 hr'))
    simp only [rn] at e3
    simp only [e3, Option.bind_some, nth, List.getD_cons_zero, List.getD_cons_succ, D.I, D.S, D.L, D.B]
    simp only [eq_step, eq_end, eqb_cons, eqb_nil, eqb_int, eqb_str, eqb_bool, eqb_sl, Bool.and_true, Bool.and_assoc]
theorem q252 {ds es : List D} (h : WL H ds L121) (h' : WL H es L121) : rn ⟨252, 0, 0⟩ (ds ++ es) = some (0, [.bool (eqb ds es)]) := by
  have h0 := h
  have h0' := h'
  obtain ⟨a0, a1, a2, a3, a4, rfl, b0, b3, b4, c4⟩ := wl121 h
  obtain ⟨y0, y1, y2, y3, y4, rfl, by0, by3, by4, cy4⟩ := wl121 h'
  show run H Tryz.prog ⟨252, 0, 0⟩ [D.str a0, D.int a1, D.int a2, D.str a3, D.sl a4, D.str y0, D.int y1, D.int y2, D.str y3, D.sl y4] = _
  rw [run_eq, g252_0_0_eq, g252_0_0]
  have w1 : WL H [D.int a1, D.int a2, D.str a3, D.sl a4] L53 := WL.part 1 4 h0
  have w1p : WL H [D.int y1, D.int y2, D.str y3, D.sl y4] L53 := WL.part 1 4 h0'
  have e1 := q158 _ _ _ (Nat.lt_succ_self _) w1 w1p
  simp only [List.cons_append, List.nil_append] at e1
  simp only [rn] at e1
  simp only [e1, Option.bind_some, nth, List.getD_cons_zero, List.getD_cons_succ, D.I, D.S, D.L, D.B]
  simp only [eq_step, eq_end, eqb_cons, eqb_nil, eqb_int, eqb_str, eqb_bool, eqb_sl, Bool.and_true, Bool.and_assoc]
theorem q226 {rs rs' : Rows} (hl : rs.length ≤ maxLen) (hl' : rs'.length ≤ maxLen) (hW : WRs H rs L121) (hW' : WRs H rs' L121) : rn ⟨226, 0, 0⟩ [.sl rs, .sl rs'] = some (0, [.bool (eqb rs rs')]) := by
  show run H Tryz.prog ⟨226, 0, 0⟩ _ = _
  rw [run_eq, g226_0_0_eq, g226_0_0]
  by_cases hll : rs'.length = rs.length
  · have hf := eq_loop (F := fun i => rn ⟨226, 0, 1⟩ [.sl rs, .sl rs', .int (i : Int)]) (A := some (0, [])) (B := some (1, [])) hll (fun i hi => ?_) ?_
    · simp only [rn, Int.natCast_zero] at hf
      rw [decide_eq_true (by omega : (rs.length : Int) = (rs'.length : Int))]
      simp only [Bool.not_true, cond_false]
      rw [hf]
      cases eqb rs rs' <;> rfl
    · have hi2 : i < rs'.length := by omega
      have hw := WRs_mem hW (List.getElem_mem hi)
      have hw' := WRs_mem hW' (List.getElem_mem hi2)
      obtain ⟨a0, a1, a2, a3, a4, hr, b0, b3, b4, c4⟩ := wl121 hw
      obtain ⟨y0, y1, y2, y3, y4, hr', by0, by3, by4, cy4⟩ := wl121 hw'
      have hc := q252 hw hw'
      rw [hr, hr'] at hc
      simp only [List.cons_append, List.nil_append] at hc
      simp only [rn] at hc
      simp only [rn]
      rw [run_eq, g226_0_1_eq, g226_0_1]
      simp only [Int.toNat_natCast, rowAt_eq hi, rowAt_eq hi2, hr, hr', inbN, hi, hi2, decide_true, cond_true, Int.ofNat_lt, nth, List.getD_cons_zero, List.getD_cons_succ, D.I, D.S, D.L, D.B, wrap_succ hi hl]
      simp only [hc, Option.bind_some, nth, List.getD_cons_zero, List.getD_cons_succ, D.I, D.S, D.L, D.B]
      cases (eqb [D.str a0, D.int a1, D.int a2, D.str a3, D.sl a4] [D.str y0, D.int y1, D.int y2, D.str y3, D.sl y4]) <;> rfl
    · simp only [rn]
      rw [run_eq, g226_0_1_eq, g226_0_1]
      simp
  · rw [decide_eq_false (by omega : ¬ (rs.length : Int) = (rs'.length : Int)), eqb_len (fun h => hll h.symm)]
    rfl
def L9 : List CT := [.str]
theorem ty9 : H.ty 9 = some ⟨false, L9, []⟩ := by kernel_rfl
theorem wl9 {ds : List D} (h : WL H ds L9) : ∃ a0, ds = [D.str a0] ∧ a0.size ≤ maxLen := by
  unfold L9 at h
  obtain ⟨a0, _, rfl, b0, h⟩ := wl_str h
  obtain rfl := wl_nil h
  exact ⟨a0, rfl, b0⟩
def L110 : List CT := [.int .i64, .int .i64, .int .i64, .str, .sl 53, .int .i64, .int .i64, .str, .sl 53]
theorem ty110 : H.ty 110 = some ⟨true, L110, [(0, 3), (1, 53), (5, 53)]⟩ := by kernel_rfl
theorem wl110 {ds : List D} (h : WL H ds L110) : ∃ a0 a1 a2 a3 a4 a5 a6 a7 a8, ds = [D.int a0, D.int a1, D.int a2, D.str a3, D.sl a4, D.int a5, D.int a6, D.str a7, D.sl a8] ∧ a3.size ≤ maxLen ∧ a4.length ≤ maxLen ∧ WRs H a4 L53 ∧ a7.size ≤ maxLen ∧ a8.length ≤ maxLen ∧ WRs H a8 L53 := by
  unfold L110 at h
  obtain ⟨a0, _, rfl, _, h⟩ := wl_int h
  obtain ⟨a1, _, rfl, _, h⟩ := wl_int h
  obtain ⟨a2, _, rfl, _, h⟩ := wl_int h
  obtain ⟨a3, _, rfl, b3, h⟩ := wl_str h
  obtain ⟨a4, _, rfl, b4, c4, h⟩ := wl_sl ty53 h
  obtain ⟨a5, _, rfl, _, h⟩ := wl_int h
  obtain ⟨a6, _, rfl, _, h⟩ := wl_int h
  obtain ⟨a7, _, rfl, b7, h⟩ := wl_str h
  obtain ⟨a8, _, rfl, b8, c8, h⟩ := wl_sl ty53 h
  obtain rfl := wl_nil h
  exact ⟨a0, a1, a2, a3, a4, a5, a6, a7, a8, rfl, b3, b4, c4, b7, b8, c8⟩
def L56 : List CT := [.sl 9, .int .i64, .int .i64, .str, .sl 53, .int .i64, .int .i64, .str, .sl 53, .sl 110]
theorem ty56 : H.ty 56 = some ⟨true, L56, [(0, 22), (1, 53), (5, 53), (9, 54)]⟩ := by kernel_rfl
theorem wl56 {ds : List D} (h : WL H ds L56) : ∃ a0 a1 a2 a3 a4 a5 a6 a7 a8 a9, ds = [D.sl a0, D.int a1, D.int a2, D.str a3, D.sl a4, D.int a5, D.int a6, D.str a7, D.sl a8, D.sl a9] ∧ a0.length ≤ maxLen ∧ WRs H a0 L9 ∧ a3.size ≤ maxLen ∧ a4.length ≤ maxLen ∧ WRs H a4 L53 ∧ a7.size ≤ maxLen ∧ a8.length ≤ maxLen ∧ WRs H a8 L53 ∧ a9.length ≤ maxLen ∧ WRs H a9 L110 := by
  unfold L56 at h
  obtain ⟨a0, _, rfl, b0, c0, h⟩ := wl_sl ty9 h
  obtain ⟨a1, _, rfl, _, h⟩ := wl_int h
  obtain ⟨a2, _, rfl, _, h⟩ := wl_int h
  obtain ⟨a3, _, rfl, b3, h⟩ := wl_str h
  obtain ⟨a4, _, rfl, b4, c4, h⟩ := wl_sl ty53 h
  obtain ⟨a5, _, rfl, _, h⟩ := wl_int h
  obtain ⟨a6, _, rfl, _, h⟩ := wl_int h
  obtain ⟨a7, _, rfl, b7, h⟩ := wl_str h
  obtain ⟨a8, _, rfl, b8, c8, h⟩ := wl_sl ty53 h
  obtain ⟨a9, _, rfl, b9, c9, h⟩ := wl_sl ty110 h
  obtain rfl := wl_nil h
  exact ⟨a0, a1, a2, a3, a4, a5, a6, a7, a8, a9, rfl, b0, c0, b3, b4, c4, b7, b8, c8, b9, c9⟩
theorem q154 {rs rs' : Rows} (hl : rs.length ≤ maxLen) (hl' : rs'.length ≤ maxLen) (hW : WRs H rs L9) (hW' : WRs H rs' L9) : rn ⟨154, 0, 0⟩ [.sl rs, .sl rs'] = some (0, [.bool (eqb rs rs')]) := by
  show run H Tryz.prog ⟨154, 0, 0⟩ _ = _
  rw [run_eq, g154_0_0_eq, g154_0_0]
  by_cases hll : rs'.length = rs.length
  · have hf := eq_loop (F := fun i => rn ⟨154, 0, 1⟩ [.sl rs, .sl rs', .int (i : Int)]) (A := some (0, [])) (B := some (1, [])) hll (fun i hi => ?_) ?_
    · simp only [rn, Int.natCast_zero] at hf
      rw [decide_eq_true (by omega : (rs.length : Int) = (rs'.length : Int))]
      simp only [Bool.not_true, cond_false]
      rw [hf]
      cases eqb rs rs' <;> rfl
    · have hi2 : i < rs'.length := by omega
      have hw := WRs_mem hW (List.getElem_mem hi)
      have hw' := WRs_mem hW' (List.getElem_mem hi2)
      obtain ⟨a0, hr, b0⟩ := wl9 hw
      obtain ⟨y0, hr', by0⟩ := wl9 hw'
      simp only [rn]
      rw [run_eq, g154_0_1_eq, g154_0_1]
      simp only [Int.toNat_natCast, rowAt_eq hi, rowAt_eq hi2, hr, hr', inbN, hi, hi2, decide_true, cond_true, Int.ofNat_lt, nth, List.getD_cons_zero, List.getD_cons_succ, D.I, D.S, D.L, D.B, wrap_succ hi hl]
      simp only [eqb_cons, eqb_nil, eqb_int, eqb_str, eqb_bool, eqb_sl, Bool.and_true]
      cases (decide (a0 = y0)) <;> rfl
    · simp only [rn]
      rw [run_eq, g154_0_1_eq, g154_0_1]
      simp
  · rw [decide_eq_false (by omega : ¬ (rs.length : Int) = (rs'.length : Int)), eqb_len (fun h => hll h.symm)]
    rfl
theorem q193 {ds es : List D} (h : WL H ds L110) (h' : WL H es L110) : rn ⟨193, 0, 0⟩ (ds ++ es) = some (0, [.bool (eqb ds es)]) := by
  have h0 := h
  have h0' := h'
  obtain ⟨a0, a1, a2, a3, a4, a5, a6, a7, a8, rfl, b3, b4, c4, b7, b8, c8⟩ := wl110 h
  obtain ⟨y0, y1, y2, y3, y4, y5, y6, y7, y8, rfl, by3, by4, cy4, by7, by8, cy8⟩ := wl110 h'
  show run H Tryz.prog ⟨193, 0, 0⟩ [D.int a0, D.int a1, D.int a2, D.str a3, D.sl a4, D.int a5, D.int a6, D.str a7, D.sl a8, D.int y0, D.int y1, D.int y2, D.str y3, D.sl y4, D.int y5, D.int y6, D.str y7, D.sl y8] = _
  rw [run_eq, g193_0_0_eq, g193_0_0]
  have w1 : WL H [D.int a1, D.int a2, D.str a3, D.sl a4] L53 := WL.part 1 4 h0
  have w1p : WL H [D.int y1, D.int y2, D.str y3, D.sl y4] L53 := WL.part 1 4 h0'
  have e1 := q158 _ _ _ (Nat.lt_succ_self _) w1 w1p
  simp only [List.cons_append, List.nil_append] at e1
  simp only [rn] at e1
  have w5 : WL H [D.int a5, D.int a6, D.str a7, D.sl a8] L53 := WL.part 5 4 h0
  have w5p : WL H [D.int y5, D.int y6, D.str y7, D.sl y8] L53 := WL.part 5 4 h0'
  have e5 := q158 _ _ _ (Nat.lt_succ_self _) w5 w5p
  simp only [List.cons_append, List.nil_append] at e5
  simp only [rn] at e5
  simp only [e1, e5, Option.bind_some, nth, List.getD_cons_zero, List.getD_cons_succ, D.I, D.S, D.L, D.B]
  simp only [eq_step, eq_end, eqb_cons, eqb_nil, eqb_int, eqb_str, eqb_bool, eqb_sl, Bool.and_true, Bool.and_assoc]
theorem q159 {rs rs' : Rows} (hl : rs.length ≤ maxLen) (hl' : rs'.length ≤ maxLen) (hW : WRs H rs L110) (hW' : WRs H rs' L110) : rn ⟨159, 0, 0⟩ [.sl rs, .sl rs'] = some (0, [.bool (eqb rs rs')]) := by
  show run H Tryz.prog ⟨159, 0, 0⟩ _ = _
  rw [run_eq, g159_0_0_eq, g159_0_0]
  by_cases hll : rs'.length = rs.length
  · have hf := eq_loop (F := fun i => rn ⟨159, 0, 1⟩ [.sl rs, .sl rs', .int (i : Int)]) (A := some (0, [])) (B := some (1, [])) hll (fun i hi => ?_) ?_
    · simp only [rn, Int.natCast_zero] at hf
      rw [decide_eq_true (by omega : (rs.length : Int) = (rs'.length : Int))]
      simp only [Bool.not_true, cond_false]
      rw [hf]
      cases eqb rs rs' <;> rfl
    · have hi2 : i < rs'.length := by omega
      have hw := WRs_mem hW (List.getElem_mem hi)
      have hw' := WRs_mem hW' (List.getElem_mem hi2)
      obtain ⟨a0, a1, a2, a3, a4, a5, a6, a7, a8, hr, b3, b4, c4, b7, b8, c8⟩ := wl110 hw
      obtain ⟨y0, y1, y2, y3, y4, y5, y6, y7, y8, hr', by3, by4, cy4, by7, by8, cy8⟩ := wl110 hw'
      have hc := q193 hw hw'
      rw [hr, hr'] at hc
      simp only [List.cons_append, List.nil_append] at hc
      simp only [rn] at hc
      simp only [rn]
      rw [run_eq, g159_0_1_eq, g159_0_1]
      simp only [Int.toNat_natCast, rowAt_eq hi, rowAt_eq hi2, hr, hr', inbN, hi, hi2, decide_true, cond_true, Int.ofNat_lt, nth, List.getD_cons_zero, List.getD_cons_succ, D.I, D.S, D.L, D.B, wrap_succ hi hl]
      simp only [hc, Option.bind_some, nth, List.getD_cons_zero, List.getD_cons_succ, D.I, D.S, D.L, D.B]
      cases (eqb [D.int a0, D.int a1, D.int a2, D.str a3, D.sl a4, D.int a5, D.int a6, D.str a7, D.sl a8] [D.int y0, D.int y1, D.int y2, D.str y3, D.sl y4, D.int y5, D.int y6, D.str y7, D.sl y8]) <;> rfl
    · simp only [rn]
      rw [run_eq, g159_0_1_eq, g159_0_1]
      simp
  · rw [decide_eq_false (by omega : ¬ (rs.length : Int) = (rs'.length : Int)), eqb_len (fun h => hll h.symm)]
    rfl
theorem q103 {ds es : List D} (h : WL H ds L56) (h' : WL H es L56) : rn ⟨103, 0, 0⟩ (ds ++ es) = some (0, [.bool (eqb ds es)]) := by
  have h0 := h
  have h0' := h'
  obtain ⟨a0, a1, a2, a3, a4, a5, a6, a7, a8, a9, rfl, b0, c0, b3, b4, c4, b7, b8, c8, b9, c9⟩ := wl56 h
  obtain ⟨y0, y1, y2, y3, y4, y5, y6, y7, y8, y9, rfl, by0, cy0, by3, by4, cy4, by7, by8, cy8, by9, cy9⟩ := wl56 h'
  show run H Tryz.prog ⟨103, 0, 0⟩ [D.sl a0, D.int a1, D.int a2, D.str a3, D.sl a4, D.int a5, D.int a6, D.str a7, D.sl a8, D.sl a9, D.sl y0, D.int y1, D.int y2, D.str y3, D.sl y4, D.int y5, D.int y6, D.str y7, D.sl y8, D.sl y9] = _
  rw [run_eq, g103_0_0_eq, g103_0_0]
  have e0 := q154 b0 by0 c0 cy0
  simp only [rn] at e0
  have w1 : WL H [D.int a1, D.int a2, D.str a3, D.sl a4] L53 := WL.part 1 4 h0
  have w1p : WL H [D.int y1, D.int y2, D.str y3, D.sl y4] L53 := WL.part 1 4 h0'
  have e1 := q158 _ _ _ (Nat.lt_succ_self _) w1 w1p
  simp only [List.cons_append, List.nil_append] at e1
  simp only [rn] at e1
  have w5 : WL H [D.int a5, D.int a6, D.str a7, D.sl a8] L53 := WL.part 5 4 h0
  have w5p : WL H [D.int y5, D.int y6, D.str y7, D.sl y8] L53 := WL.part 5 4 h0'
  have e5 := q158 _ _ _ (Nat.lt_succ_self _) w5 w5p
  simp only [List.cons_append, List.nil_append] at e5
  simp only [rn] at e5
  have e9 := q159 b9 by9 c9 cy9
  simp only [rn] at e9
  simp only [e0, e1, e5, e9, Option.bind_some, nth, List.getD_cons_zero, List.getD_cons_succ, D.I, D.S, D.L, D.B]
  simp only [eq_step, eq_end, eqb_cons, eqb_nil, eqb_int, eqb_str, eqb_bool, eqb_sl, Bool.and_true, Bool.and_assoc]
theorem q46 {rs rs' : Rows} (hl : rs.length ≤ maxLen) (hl' : rs'.length ≤ maxLen) (hW : WRs H rs L56) (hW' : WRs H rs' L56) : rn ⟨46, 0, 0⟩ [.sl rs, .sl rs'] = some (0, [.bool (eqb rs rs')]) := by
  show run H Tryz.prog ⟨46, 0, 0⟩ _ = _
  rw [run_eq, g46_0_0_eq, g46_0_0]
  by_cases hll : rs'.length = rs.length
  · have hf := eq_loop (F := fun i => rn ⟨46, 0, 1⟩ [.sl rs, .sl rs', .int (i : Int)]) (A := some (0, [])) (B := some (1, [])) hll (fun i hi => ?_) ?_
    · simp only [rn, Int.natCast_zero] at hf
      rw [decide_eq_true (by omega : (rs.length : Int) = (rs'.length : Int))]
      simp only [Bool.not_true, cond_false]
      rw [hf]
      cases eqb rs rs' <;> rfl
    · have hi2 : i < rs'.length := by omega
      have hw := WRs_mem hW (List.getElem_mem hi)
      have hw' := WRs_mem hW' (List.getElem_mem hi2)
      obtain ⟨a0, a1, a2, a3, a4, a5, a6, a7, a8, a9, hr, b0, c0, b3, b4, c4, b7, b8, c8, b9, c9⟩ := wl56 hw
      obtain ⟨y0, y1, y2, y3, y4, y5, y6, y7, y8, y9, hr', by0, cy0, by3, by4, cy4, by7, by8, cy8, by9, cy9⟩ := wl56 hw'
      have hc := q103 hw hw'
      rw [hr, hr'] at hc
      simp only [List.cons_append, List.nil_append] at hc
      simp only [rn] at hc
      simp only [rn]
      rw [run_eq, g46_0_1_eq, g46_0_1]
      simp only [Int.toNat_natCast, rowAt_eq hi, rowAt_eq hi2, hr, hr', inbN, hi, hi2, decide_true, cond_true, Int.ofNat_lt, nth, List.getD_cons_zero, List.getD_cons_succ, D.I, D.S, D.L, D.B, wrap_succ hi hl]
      simp only [hc, Option.bind_some, nth, List.getD_cons_zero, List.getD_cons_succ, D.I, D.S, D.L, D.B]
      cases (eqb [D.sl a0, D.int a1, D.int a2, D.str a3, D.sl a4, D.int a5, D.int a6, D.str a7, D.sl a8, D.sl a9] [D.sl y0, D.int y1, D.int y2, D.str y3, D.sl y4, D.int y5, D.int y6, D.str y7, D.sl y8, D.sl y9]) <;> rfl
    · simp only [rn]
      rw [run_eq, g46_0_1_eq, g46_0_1]
      simp
  · rw [decide_eq_false (by omega : ¬ (rs.length : Int) = (rs'.length : Int)), eqb_len (fun h => hll h.symm)]
    rfl
def L154 : List CT := [.str, .sl 9, .str]
theorem ty154 : H.ty 154 = some ⟨true, L154, [(0, 9), (1, 22), (2, 9)]⟩ := by kernel_rfl
theorem wl154 {ds : List D} (h : WL H ds L154) : ∃ a0 a1 a2, ds = [D.str a0, D.sl a1, D.str a2] ∧ a0.size ≤ maxLen ∧ a1.length ≤ maxLen ∧ WRs H a1 L9 ∧ a2.size ≤ maxLen := by
  unfold L154 at h
  obtain ⟨a0, _, rfl, b0, h⟩ := wl_str h
  obtain ⟨a1, _, rfl, b1, c1, h⟩ := wl_sl ty9 h
  obtain ⟨a2, _, rfl, b2, h⟩ := wl_str h
  obtain rfl := wl_nil h
  exact ⟨a0, a1, a2, rfl, b0, b1, c1, b2⟩
def L143 : List CT := [.str, .int .i64, .int .i64, .str, .sl 53, .int .i64, .int .i64, .str, .sl 53, .sl 110]
theorem ty143 : H.ty 143 = some ⟨true, L143, [(0, 9), (1, 53), (5, 53), (9, 54)]⟩ := by kernel_rfl
theorem wl143 {ds : List D} (h : WL H ds L143) : ∃ a0 a1 a2 a3 a4 a5 a6 a7 a8 a9, ds = [D.str a0, D.int a1, D.int a2, D.str a3, D.sl a4, D.int a5, D.int a6, D.str a7, D.sl a8, D.sl a9] ∧ a0.size ≤ maxLen ∧ a3.size ≤ maxLen ∧ a4.length ≤ maxLen ∧ WRs H a4 L53 ∧ a7.size ≤ maxLen ∧ a8.length ≤ maxLen ∧ WRs H a8 L53 ∧ a9.length ≤ maxLen ∧ WRs H a9 L110 := by
  unfold L143 at h
  obtain ⟨a0, _, rfl, b0, h⟩ := wl_str h
  obtain ⟨a1, _, rfl, _, h⟩ := wl_int h
  obtain ⟨a2, _, rfl, _, h⟩ := wl_int h
  obtain ⟨a3, _, rfl, b3, h⟩ := wl_str h
  obtain ⟨a4, _, rfl, b4, c4, h⟩ := wl_sl ty53 h
  obtain ⟨a5, _, rfl, _, h⟩ := wl_int h
  obtain ⟨a6, _, rfl, _, h⟩ := wl_int h
  obtain ⟨a7, _, rfl, b7, h⟩ := wl_str h
  obtain ⟨a8, _, rfl, b8, c8, h⟩ := wl_sl ty53 h
  obtain ⟨a9, _, rfl, b9, c9, h⟩ := wl_sl ty110 h
  obtain rfl := wl_nil h
  exact ⟨a0, a1, a2, a3, a4, a5, a6, a7, a8, a9, rfl, b0, b3, b4, c4, b7, b8, c8, b9, c9⟩
def L146 : List CT := [.str, .int .i64]
theorem ty146 : H.ty 146 = some ⟨true, L146, [(0, 9), (1, 3)]⟩ := by kernel_rfl
theorem wl146 {ds : List D} (h : WL H ds L146) : ∃ a0 a1, ds = [D.str a0, D.int a1] ∧ a0.size ≤ maxLen := by
  unfold L146 at h
  obtain ⟨a0, _, rfl, b0, h⟩ := wl_str h
  obtain ⟨a1, _, rfl, _, h⟩ := wl_int h
  obtain rfl := wl_nil h
  exact ⟨a0, a1, rfl, b0⟩
def L42 : List CT := [.sl 9, .sl 154, .sl 143, .sl 146]
theorem ty42 : H.ty 42 = some ⟨true, L42, [(0, 38), (2, 39), (3, 40)]⟩ := by kernel_rfl
theorem wl42 {ds : List D} (h : WL H ds L42) : ∃ a0 a1 a2 a3, ds = [D.sl a0, D.sl a1, D.sl a2, D.sl a3] ∧ a0.length ≤ maxLen ∧ WRs H a0 L9 ∧ a1.length ≤ maxLen ∧ WRs H a1 L154 ∧ a2.length ≤ maxLen ∧ WRs H a2 L143 ∧ a3.length ≤ maxLen ∧ WRs H a3 L146 := by
  unfold L42 at h
  obtain ⟨a0, _, rfl, b0, c0, h⟩ := wl_sl ty9 h
  obtain ⟨a1, _, rfl, b1, c1, h⟩ := wl_sl ty154 h
  obtain ⟨a2, _, rfl, b2, c2, h⟩ := wl_sl ty143 h
  obtain ⟨a3, _, rfl, b3, c3, h⟩ := wl_sl ty146 h
  obtain rfl := wl_nil h
  exact ⟨a0, a1, a2, a3, rfl, b0, c0, b1, c1, b2, c2, b3, c3⟩
def L38 : List CT := [.sl 9, .sl 154]
theorem ty38 : H.ty 38 = some ⟨true, L38, [(0, 22), (1, 36)]⟩ := by kernel_rfl
theorem wl38 {ds : List D} (h : WL H ds L38) : ∃ a0 a1, ds = [D.sl a0, D.sl a1] ∧ a0.length ≤ maxLen ∧ WRs H a0 L9 ∧ a1.length ≤ maxLen ∧ WRs H a1 L154 := by
  unfold L38 at h
  obtain ⟨a0, _, rfl, b0, c0, h⟩ := wl_sl ty9 h
  obtain ⟨a1, _, rfl, b1, c1, h⟩ := wl_sl ty154 h
  obtain rfl := wl_nil h
  exact ⟨a0, a1, rfl, b0, c0, b1, c1⟩
theorem q191 {ds es : List D} (h : WL H ds L154) (h' : WL H es L154) : rn ⟨191, 0, 0⟩ (ds ++ es) = some (0, [.bool (eqb ds es)]) := by
  have h0 := h
  have h0' := h'
  obtain ⟨a0, a1, a2, rfl, b0, b1, c1, b2⟩ := wl154 h
  obtain ⟨y0, y1, y2, rfl, by0, by1, cy1, by2⟩ := wl154 h'
  show run H Tryz.prog ⟨191, 0, 0⟩ [D.str a0, D.sl a1, D.str a2, D.str y0, D.sl y1, D.str y2] = _
  rw [run_eq, g191_0_0_eq, g191_0_0]
  have e1 := q154 b1 by1 c1 cy1
  simp only [rn] at e1
  simp only [e1, Option.bind_some, nth, List.getD_cons_zero, List.getD_cons_succ, D.I, D.S, D.L, D.B]
  simp only [eq_step, eq_end, eqb_cons, eqb_nil, eqb_int, eqb_str, eqb_bool, eqb_sl, Bool.and_true, Bool.and_assoc]
theorem q155 {rs rs' : Rows} (hl : rs.length ≤ maxLen) (hl' : rs'.length ≤ maxLen) (hW : WRs H rs L154) (hW' : WRs H rs' L154) : rn ⟨155, 0, 0⟩ [.sl rs, .sl rs'] = some (0, [.bool (eqb rs rs')]) := by
  show run H Tryz.prog ⟨155, 0, 0⟩ _ = _
  rw [run_eq, g155_0_0_eq, g155_0_0]
  by_cases hll : rs'.length = rs.length
  · have hf := eq_loop (F := fun i => rn ⟨155, 0, 1⟩ [.sl rs, .sl rs', .int (i : Int)]) (A := some (0, [])) (B := some (1, [])) hll (fun i hi => ?_) ?_
    · simp only [rn, Int.natCast_zero] at hf
      rw [decide_eq_true (by omega : (rs.length : Int) = (rs'.length : Int))]
      simp only [Bool.not_true, cond_false]
      rw [hf]
      cases eqb rs rs' <;> rfl
    · have hi2 : i < rs'.length := by omega
      have hw := WRs_mem hW (List.getElem_mem hi)
      have hw' := WRs_mem hW' (List.getElem_mem hi2)
      obtain ⟨a0, a1, a2, hr, b0, b1, c1, b2⟩ := wl154 hw
      obtain ⟨y0, y1, y2, hr', by0, by1, cy1, by2⟩ := wl154 hw'
      have hc := q191 hw hw'
      rw [hr, hr'] at hc
      simp only [List.cons_append, List.nil_append] at hc
      simp only [rn] at hc
      simp only [rn]
      rw [run_eq, g155_0_1_eq, g155_0_1]
      simp only [Int.toNat_natCast, rowAt_eq hi, rowAt_eq hi2, hr, hr', inbN, hi, hi2, decide_true, cond_true, Int.ofNat_lt, nth, List.getD_cons_zero, List.getD_cons_succ, D.I, D.S, D.L, D.B, wrap_succ hi hl]
      simp only [hc, Option.bind_some, nth, List.getD_cons_zero, List.getD_cons_succ, D.I, D.S, D.L, D.B]
      cases (eqb [D.str a0, D.sl a1, D.str a2] [D.str y0, D.sl y1, D.str y2]) <;> rfl
    · simp only [rn]
      rw [run_eq, g155_0_1_eq, g155_0_1]
      simp
  · rw [decide_eq_false (by omega : ¬ (rs.length : Int) = (rs'.length : Int)), eqb_len (fun h => hll h.symm)]
    rfl
theorem q100 {ds es : List D} (h : WL H ds L38) (h' : WL H es L38) : rn ⟨100, 0, 0⟩ (ds ++ es) = some (0, [.bool (eqb ds es)]) := by
  have h0 := h
  have h0' := h'
  obtain ⟨a0, a1, rfl, b0, c0, b1, c1⟩ := wl38 h
  obtain ⟨y0, y1, rfl, by0, cy0, by1, cy1⟩ := wl38 h'
  show run H Tryz.prog ⟨100, 0, 0⟩ [D.sl a0, D.sl a1, D.sl y0, D.sl y1] = _
  rw [run_eq, g100_0_0_eq, g100_0_0]
  have e0 := q154 b0 by0 c0 cy0
  simp only [rn] at e0
  have e1 := q155 b1 by1 c1 cy1
  simp only [rn] at e1
  simp only [e0, e1, Option.bind_some, nth, List.getD_cons_zero, List.getD_cons_succ, D.I, D.S, D.L, D.B]
  simp only [eq_step, eq_end, eqb_cons, eqb_nil, eqb_int, eqb_str, eqb_bool, eqb_sl, Bool.and_true, Bool.and_assoc]
theorem q156 {ds es : List D} (h : WL H ds L143) (h' : WL H es L143) : rn ⟨156, 0, 0⟩ (ds ++ es) = some (0, [.bool (eqb ds es)]) := by
  have h0 := h
  have h0' := h'
  obtain ⟨a0, a1, a2, a3, a4, a5, a6, a7, a8, a9, rfl, b0, b3, b4, c4, b7, b8, c8, b9, c9⟩ := wl143 h
  obtain ⟨y0, y1, y2, y3, y4, y5, y6, y7, y8, y9, rfl, by0, by3, by4, cy4, by7, by8, cy8, by9, cy9⟩ := wl143 h'
  show run H Tryz.prog ⟨156, 0, 0⟩ [D.str a0, D.int a1, D.int a2, D.str a3, D.sl a4, D.int a5, D.int a6, D.str a7, D.sl a8, D.sl a9, D.str y0, D.int y1, D.int y2, D.str y3, D.sl y4, D.int y5, D.int y6, D.str y7, D.sl y8, D.sl y9] = _
  rw [run_eq, g156_0_0_eq, g156_0_0]
  have w1 : WL H [D.int a1, D.int a2, D.str a3, D.sl a4] L53 := WL.part 1 4 h0
  have w1p : WL H [D.int y1, D.int y2, D.str y3, D.sl y4] L53 := WL.part 1 4 h0'
  have e1 := q158 _ _ _ (Nat.lt_succ_self _) w1 w1p
  simp only [List.cons_append, List.nil_append] at e1
  simp only [rn] at e1
  have w5 : WL H [D.int a5, D.int a6, D.str a7, D.sl a8] L53 := WL.part 5 4 h0
  have w5p : WL H [D.int y5, D.int y6, D.str y7, D.sl y8] L53 := WL.part 5 4 h0'
  have e5 := q158 _ _ _ (Nat.lt_succ_self _) w5 w5p
  simp only [List.cons_append, List.nil_append] at e5
  simp only [rn] at e5
  have e9 := q159 b9 by9 c9 cy9
  simp only [rn] at e9
  simp only [e1, e5, e9, Option.bind_some, nth, List.getD_cons_zero, List.getD_cons_succ, D.I, D.S, D.L, D.B]
  simp only [eq_step, eq_end, eqb_cons, eqb_nil, eqb_int, eqb_str, eqb_bool, eqb_sl, Bool.and_true, Bool.and_assoc]
theorem q101 {rs rs' : Rows} (hl : rs.length ≤ maxLen) (hl' : rs'.length ≤ maxLen) (hW : WRs H rs L143) (hW' : WRs H rs' L143) : rn ⟨101, 0, 0⟩ [.sl rs, .sl rs'] = some (0, [.bool (eqb rs rs')]) := by
  show run H Tryz.prog ⟨101, 0, 0⟩ _ = _
  rw [run_eq, g101_0_0_eq, g101_0_0]
  by_cases hll : rs'.length = rs.length
  · have hf := eq_loop (F := fun i => rn ⟨101, 0, 1⟩ [.sl rs, .sl rs', .int (i : Int)]) (A := some (0, [])) (B := some (1, [])) hll (fun i hi => ?_) ?_
    · simp only [rn, Int.natCast_zero] at hf
      rw [decide_eq_true (by omega : (rs.length : Int) = (rs'.length : Int))]
      simp only [Bool.not_true, cond_false]
      rw [hf]
      cases eqb rs rs' <;> rfl
    · have hi2 : i < rs'.length := by omega
      have hw := WRs_mem hW (List.getElem_mem hi)
      have hw' := WRs_mem hW' (List.getElem_mem hi2)
      obtain ⟨a0, a1, a2, a3, a4, a5, a6, a7, a8, a9, hr, b0, b3, b4, c4, b7, b8, c8, b9, c9⟩ := wl143 hw
      obtain ⟨y0, y1, y2, y3, y4, y5, y6, y7, y8, y9, hr', by0, by3, by4, cy4, by7, by8, cy8, by9, cy9⟩ := wl143 hw'
      have hc := q156 hw hw'
      rw [hr, hr'] at hc
      simp only [List.cons_append, List.nil_append] at hc
      simp only [rn] at hc
      simp only [rn]
      rw [run_eq, g101_0_1_eq, g101_0_1]
      simp only [Int.toNat_natCast, rowAt_eq hi, rowAt_eq hi2, hr, hr', inbN, hi, hi2, decide_true, cond_true, Int.ofNat_lt, nth, List.getD_cons_zero, List.getD_cons_succ, D.I, D.S, D.L, D.B, wrap_succ hi hl]
      simp only [hc, Option.bind_some, nth, List.getD_cons_zero, List.getD_cons_succ, D.I, D.S, D.L, D.B]
      cases (eqb [D.str a0, D.int a1, D.int a2, D.str a3, D.sl a4, D.int a5, D.int a6, D.str a7, D.sl a8, D.sl a9] [D.str y0, D.int y1, D.int y2, D.str y3, D.sl y4, D.int y5, D.int y6, D.str y7, D.sl y8, D.sl y9]) <;> rfl
    · simp only [rn]
      rw [run_eq, g101_0_1_eq, g101_0_1]
      simp
  · rw [decide_eq_false (by omega : ¬ (rs.length : Int) = (rs'.length : Int)), eqb_len (fun h => hll h.symm)]
    rfl
theorem q157 {ds es : List D} (h : WL H ds L146) (h' : WL H es L146) : rn ⟨157, 0, 0⟩ (ds ++ es) = some (0, [.bool (eqb ds es)]) := by
  have h0 := h
  have h0' := h'
  obtain ⟨a0, a1, rfl, b0⟩ := wl146 h
  obtain ⟨y0, y1, rfl, by0⟩ := wl146 h'
  show run H Tryz.prog ⟨157, 0, 0⟩ [D.str a0, D.int a1, D.str y0, D.int y1] = _
  rw [run_eq, g157_0_0_eq, g157_0_0]
  simp only [eq_step, eq_end, eqb_cons, eqb_nil, eqb_int, eqb_str, eqb_bool, eqb_sl, Bool.and_true, Bool.and_assoc]
theorem q102 {rs rs' : Rows} (hl : rs.length ≤ maxLen) (hl' : rs'.length ≤ maxLen) (hW : WRs H rs L146) (hW' : WRs H rs' L146) : rn ⟨102, 0, 0⟩ [.sl rs, .sl rs'] = some (0, [.bool (eqb rs rs')]) := by
  show run H Tryz.prog ⟨102, 0, 0⟩ _ = _
  rw [run_eq, g102_0_0_eq, g102_0_0]
  by_cases hll : rs'.length = rs.length
  · have hf := eq_loop (F := fun i => rn ⟨102, 0, 1⟩ [.sl rs, .sl rs', .int (i : Int)]) (A := some (0, [])) (B := some (1, [])) hll (fun i hi => ?_) ?_
    · simp only [rn, Int.natCast_zero] at hf
      rw [decide_eq_true (by omega : (rs.length : Int) = (rs'.length : Int))]
      simp only [Bool.not_true, cond_false]
      rw [hf]
      cases eqb rs rs' <;> rfl
    · have hi2 : i < rs'.length := by omega
      have hw := WRs_mem hW (List.getElem_mem hi)
      have hw' := WRs_mem hW' (List.getElem_mem hi2)
      obtain ⟨a0, a1, hr, b0⟩ := wl146 hw
      obtain ⟨y0, y1, hr', by0⟩ := wl146 hw'
      have hc := q157 hw hw'
      rw [hr, hr'] at hc
      simp only [List.cons_append, List.nil_append] at hc
      simp only [rn] at hc
      simp only [rn]
      rw [run_eq, g102_0_1_eq, g102_0_1]
      simp only [Int.toNat_natCast, rowAt_eq hi, rowAt_eq hi2, hr, hr', inbN, hi, hi2, decide_true, cond_true, Int.ofNat_lt, nth, List.getD_cons_zero, List.getD_cons_succ, D.I, D.S, D.L, D.B, wrap_succ hi hl]
      simp only [hc, Option.bind_some, nth, List.getD_cons_zero, List.getD_cons_succ, D.I, D.S, D.L, D.B]
      cases (eqb [D.str a0, D.int a1] [D.str y0, D.int y1]) <;> rfl
    · simp only [rn]
      rw [run_eq, g102_0_1_eq, g102_0_1]
      simp
  · rw [decide_eq_false (by omega : ¬ (rs.length : Int) = (rs'.length : Int)), eqb_len (fun h => hll h.symm)]
    rfl
theorem q45 {ds es : List D} (h : WL H ds L42) (h' : WL H es L42) : rn ⟨45, 0, 0⟩ (ds ++ es) = some (0, [.bool (eqb ds es)]) := by
  have h0 := h
  have h0' := h'
  obtain ⟨a0, a1, a2, a3, rfl, b0, c0, b1, c1, b2, c2, b3, c3⟩ := wl42 h
  obtain ⟨y0, y1, y2, y3, rfl, by0, cy0, by1, cy1, by2, cy2, by3, cy3⟩ := wl42 h'
  show run H Tryz.prog ⟨45, 0, 0⟩ [D.sl a0, D.sl a1, D.sl a2, D.sl a3, D.sl y0, D.sl y1, D.sl y2, D.sl y3] = _
  rw [run_eq, g45_0_0_eq, g45_0_0]
  have w0 : WL H [D.sl a0, D.sl a1] L38 := WL.part 0 2 h0
  have w0p : WL H [D.sl y0, D.sl y1] L38 := WL.part 0 2 h0'
  have e0 := q100 w0 w0p
  simp only [List.cons_append, List.nil_append] at e0
  simp only [rn] at e0
  have e2 := q101 b2 by2 c2 cy2
  simp only [rn] at e2
  have e3 := q102 b3 by3 c3 cy3
  simp only [rn] at e3
  simp only [e0, e2, e3, Option.bind_some, nth, List.getD_cons_zero, List.getD_cons_succ, D.I, D.S, D.L, D.B]
  simp only [eq_step, eq_end, eqb_cons, eqb_nil, eqb_int, eqb_str, eqb_bool, eqb_sl, Bool.and_true, Bool.and_assoc]
def L3 : List CT := [.int .i64]
theorem ty3 : H.ty 3 = some ⟨false, L3, []⟩ := by kernel_rfl
theorem wl3 {ds : List D} (h : WL H ds L3) : ∃ a0, ds = [D.int a0] := by
  unfold L3 at h
  obtain ⟨a0, _, rfl, _, h⟩ := wl_int h
  obtain rfl := wl_nil h
  exact ⟨a0, rfl⟩
theorem q225 {rs rs' : Rows} (hl : rs.length ≤ maxLen) (hl' : rs'.length ≤ maxLen) (hW : WRs H rs L3) (hW' : WRs H rs' L3) : rn ⟨225, 0, 0⟩ [.sl rs, .sl rs'] = some (0, [.bool (eqb rs rs')]) := by
  show run H Tryz.prog ⟨225, 0, 0⟩ _ = _
  rw [run_eq, g225_0_0_eq, g225_0_0]
  by_cases hll : rs'.length = rs.length
  · have hf := eq_loop (F := fun i => rn ⟨225, 0, 1⟩ [.sl rs, .sl rs', .int (i : Int)]) (A := some (0, [])) (B := some (1, [])) hll (fun i hi => ?_) ?_
    · simp only [rn, Int.natCast_zero] at hf
      rw [decide_eq_true (by omega : (rs.length : Int) = (rs'.length : Int))]
      simp only [Bool.not_true, cond_false]
      rw [hf]
      cases eqb rs rs' <;> rfl
    · have hi2 : i < rs'.length := by omega
      have hw := WRs_mem hW (List.getElem_mem hi)
      have hw' := WRs_mem hW' (List.getElem_mem hi2)
      obtain ⟨a0, hr⟩ := wl3 hw
      obtain ⟨y0, hr'⟩ := wl3 hw'
      simp only [rn]
      rw [run_eq, g225_0_1_eq, g225_0_1]
      simp only [Int.toNat_natCast, rowAt_eq hi, rowAt_eq hi2, hr, hr', inbN, hi, hi2, decide_true, cond_true, Int.ofNat_lt, nth, List.getD_cons_zero, List.getD_cons_succ, D.I, D.S, D.L, D.B, wrap_succ hi hl]
      simp only [eqb_cons, eqb_nil, eqb_int, eqb_str, eqb_bool, eqb_sl, Bool.and_true]
      cases (decide (a0 = y0)) <;> rfl
    · simp only [rn]
      rw [run_eq, g225_0_1_eq, g225_0_1]
      simp
  · rw [decide_eq_false (by omega : ¬ (rs.length : Int) = (rs'.length : Int)), eqb_len (fun h => hll h.symm)]
    rfl
def L163 : List CT := [.int .i64, .sl 3, .int .i64, .sl 121]
theorem ty163 : H.ty 163 = some ⟨true, L163, [(0, 3), (1, 58), (2, 3), (3, 75)]⟩ := by kernel_rfl
theorem wl163 {ds : List D} (h : WL H ds L163) : ∃ a0 a1 a2 a3, ds = [D.int a0, D.sl a1, D.int a2, D.sl a3] ∧ a1.length ≤ maxLen ∧ WRs H a1 L3 ∧ a3.length ≤ maxLen ∧ WRs H a3 L121 := by
  unfold L163 at h
  obtain ⟨a0, _, rfl, _, h⟩ := wl_int h
  obtain ⟨a1, _, rfl, b1, c1, h⟩ := wl_sl ty3 h
  obtain ⟨a2, _, rfl, _, h⟩ := wl_int h
  obtain ⟨a3, _, rfl, b3, c3, h⟩ := wl_sl ty121 h
  obtain rfl := wl_nil h
  exact ⟨a0, a1, a2, a3, rfl, b1, c1, b3, c3⟩
def L97 : List CT := [.sl 163]
theorem ty97 : H.ty 97 = some ⟨true, L97, [(0, 95)]⟩ := by kernel_rfl
theorem wl97 {ds : List D} (h : WL H ds L97) : ∃ a0, ds = [D.sl a0] ∧ a0.length ≤ maxLen ∧ WRs H a0 L163 := by
  unfold L97 at h
  obtain ⟨a0, _, rfl, b0, c0, h⟩ := wl_sl ty163 h
  obtain rfl := wl_nil h
  exact ⟨a0, rfl, b0, c0⟩
theorem q194 {ds es : List D} (h : WL H ds L163) (h' : WL H es L163) : rn ⟨194, 0, 0⟩ (ds ++ es) = some (0, [.bool (eqb ds es)]) := by
  have h0 := h
  have h0' := h'
  obtain ⟨a0, a1, a2, a3, rfl, b1, c1, b3, c3⟩ := wl163 h
  obtain ⟨y0, y1, y2, y3, rfl, by1, cy1, by3, cy3⟩ := wl163 h'
  show run H Tryz.prog ⟨194, 0, 0⟩ [D.int a0, D.sl a1, D.int a2, D.sl a3, D.int y0, D.sl y1, D.int y2, D.sl y3] = _
  rw [run_eq, g194_0_0_eq, g194_0_0]
  have e1 := q225 b1 by1 c1 cy1
  simp only [rn] at e1
  have e3 := q226 b3 by3 c3 cy3
  simp only [rn] at e3
  simp only [e1, e3, Option.bind_some, nth, List.getD_cons_zero, List.getD_cons_succ, D.I, D.S, D.L, D.B]
  simp only [eq_step, eq_end, eqb_cons, eqb_nil, eqb_int, eqb_str, eqb_bool, eqb_sl, Bool.and_true, Bool.and_assoc]
theorem q160 {rs rs' : Rows} (hl : rs.length ≤ maxLen) (hl' : rs'.length ≤ maxLen) (hW : WRs H rs L163) (hW' : WRs H rs' L163) : rn ⟨160, 0, 0⟩ [.sl rs, .sl rs'] = some (0, [.bool (eqb rs rs')]) := by
  show run H Tryz.prog ⟨160, 0, 0⟩ _ = _
  rw [run_eq, g160_0_0_eq, g160_0_0]
  by_cases hll : rs'.length = rs.length
  · have hf := eq_loop (F := fun i => rn ⟨160, 0, 1⟩ [.sl rs, .sl rs', .int (i : Int)]) (A := some (0, [])) (B := some (1, [])) hll (fun i hi => ?_) ?_
    · simp only [rn, Int.natCast_zero] at hf
      rw [decide_eq_true (by omega : (rs.length : Int) = (rs'.length : Int))]
      simp only [Bool.not_true, cond_false]
      rw [hf]
      cases eqb rs rs' <;> rfl
    · have hi2 : i < rs'.length := by omega
      have hw := WRs_mem hW (List.getElem_mem hi)
      have hw' := WRs_mem hW' (List.getElem_mem hi2)
      obtain ⟨a0, a1, a2, a3, hr, b1, c1, b3, c3⟩ := wl163 hw
      obtain ⟨y0, y1, y2, y3, hr', by1, cy1, by3, cy3⟩ := wl163 hw'
      have hc := q194 hw hw'
      rw [hr, hr'] at hc
      simp only [List.cons_append, List.nil_append] at hc
      simp only [rn] at hc
      simp only [rn]
      rw [run_eq, g160_0_1_eq, g160_0_1]
      simp only [Int.toNat_natCast, rowAt_eq hi, rowAt_eq hi2, hr, hr', inbN, hi, hi2, decide_true, cond_true, Int.ofNat_lt, nth, List.getD_cons_zero, List.getD_cons_succ, D.I, D.S, D.L, D.B, wrap_succ hi hl]
      simp only [hc, Option.bind_some, nth, List.getD_cons_zero, List.getD_cons_succ, D.I, D.S, D.L, D.B]
      cases (eqb [D.int a0, D.sl a1, D.int a2, D.sl a3] [D.int y0, D.sl y1, D.int y2, D.sl y3]) <;> rfl
    · simp only [rn]
      rw [run_eq, g160_0_1_eq, g160_0_1]
      simp
  · rw [decide_eq_false (by omega : ¬ (rs.length : Int) = (rs'.length : Int)), eqb_len (fun h => hll h.symm)]
    rfl
theorem q104 {ds es : List D} (h : WL H ds L97) (h' : WL H es L97) : rn ⟨104, 0, 0⟩ (ds ++ es) = some (0, [.bool (eqb ds es)]) := by
  have h0 := h
  have h0' := h'
  obtain ⟨a0, rfl, b0, c0⟩ := wl97 h
  obtain ⟨y0, rfl, by0, cy0⟩ := wl97 h'
  show run H Tryz.prog ⟨104, 0, 0⟩ [D.sl a0, D.sl y0] = _
  rw [run_eq, g104_0_0_eq, g104_0_0]
  have e0 := q160 b0 by0 c0 cy0
  simp only [rn] at e0
  simp only [e0, Option.bind_some, nth, List.getD_cons_zero, List.getD_cons_succ, D.I, D.S, D.L, D.B]
  simp only [eq_step, eq_end, eqb_cons, eqb_nil, eqb_int, eqb_str, eqb_bool, eqb_sl, Bool.and_true, Bool.and_assoc]
theorem q47 {rs rs' : Rows} (hl : rs.length ≤ maxLen) (hl' : rs'.length ≤ maxLen) (hW : WRs H rs L97) (hW' : WRs H rs' L97) : rn ⟨47, 0, 0⟩ [.sl rs, .sl rs'] = some (0, [.bool (eqb rs rs')]) := by
  show run H Tryz.prog ⟨47, 0, 0⟩ _ = _
  rw [run_eq, g47_0_0_eq, g47_0_0]
  by_cases hll : rs'.length = rs.length
  · have hf := eq_loop (F := fun i => rn ⟨47, 0, 1⟩ [.sl rs, .sl rs', .int (i : Int)]) (A := some (0, [])) (B := some (1, [])) hll (fun i hi => ?_) ?_
    · simp only [rn, Int.natCast_zero] at hf
      rw [decide_eq_true (by omega : (rs.length : Int) = (rs'.length : Int))]
      simp only [Bool.not_true, cond_false]
      rw [hf]
      cases eqb rs rs' <;> rfl
    · have hi2 : i < rs'.length := by omega
      have hw := WRs_mem hW (List.getElem_mem hi)
      have hw' := WRs_mem hW' (List.getElem_mem hi2)
      obtain ⟨a0, hr, b0, c0⟩ := wl97 hw
      obtain ⟨y0, hr', by0, cy0⟩ := wl97 hw'
      have hc := q104 hw hw'
      rw [hr, hr'] at hc
      simp only [List.cons_append, List.nil_append] at hc
      simp only [rn] at hc
      simp only [rn]
      rw [run_eq, g47_0_1_eq, g47_0_1]
      simp only [Int.toNat_natCast, rowAt_eq hi, rowAt_eq hi2, hr, hr', inbN, hi, hi2, decide_true, cond_true, Int.ofNat_lt, nth, List.getD_cons_zero, List.getD_cons_succ, D.I, D.S, D.L, D.B, wrap_succ hi hl]
      simp only [hc, Option.bind_some, nth, List.getD_cons_zero, List.getD_cons_succ, D.I, D.S, D.L, D.B]
      cases (eqb [D.sl a0] [D.sl y0]) <;> rfl
    · simp only [rn]
      rw [run_eq, g47_0_1_eq, g47_0_1]
      simp
  · rw [decide_eq_false (by omega : ¬ (rs.length : Int) = (rs'.length : Int)), eqb_len (fun h => hll h.symm)]
    rfl
def L46 : List CT := [.str, .sl 9, .sl 154, .sl 143, .sl 146, .sl 56, .sl 97]
theorem ty46 : H.ty 46 = some ⟨true, L46, [(0, 9), (1, 42), (5, 43), (6, 44)]⟩ := by kernel_rfl
theorem wl46 {ds : List D} (h : WL H ds L46) : ∃ a0 a1 a2 a3 a4 a5 a6, ds = [D.str a0, D.sl a1, D.sl a2, D.sl a3, D.sl a4, D.sl a5, D.sl a6] ∧ a0.size ≤ maxLen ∧ a1.length ≤ maxLen ∧ WRs H a1 L9 ∧ a2.length ≤ maxLen ∧ WRs H a2 L154 ∧ a3.length ≤ maxLen ∧ WRs H a3 L143 ∧ a4.length ≤ maxLen ∧ WRs H a4 L146 ∧ a5.length ≤ maxLen ∧ WRs H a5 L56 ∧ a6.length ≤ maxLen ∧ WRs H a6 L97 := by
  unfold L46 at h
  obtain ⟨a0, _, rfl, b0, h⟩ := wl_str h
  obtain ⟨a1, _, rfl, b1, c1, h⟩ := wl_sl ty9 h
  obtain ⟨a2, _, rfl, b2, c2, h⟩ := wl_sl ty154 h
  obtain ⟨a3, _, rfl, b3, c3, h⟩ := wl_sl ty143 h
  obtain ⟨a4, _, rfl, b4, c4, h⟩ := wl_sl ty146 h
  obtain ⟨a5, _, rfl, b5, c5, h⟩ := wl_sl ty56 h
  obtain ⟨a6, _, rfl, b6, c6, h⟩ := wl_sl ty97 h
  obtain rfl := wl_nil h
  exact ⟨a0, a1, a2, a3, a4, a5, a6, rfl, b0, b1, c1, b2, c2, b3, c3, b4, c4, b5, c5, b6, c6⟩
theorem q10 {ds es : List D} (h : WL H ds L46) (h' : WL H es L46) : rn ⟨10, 0, 0⟩ (ds ++ es) = some (0, [.bool (eqb ds es)]) := by
  have h0 := h
  have h0' := h'
  obtain ⟨a0, a1, a2, a3, a4, a5, a6, rfl, b0, b1, c1, b2, c2, b3, c3, b4, c4, b5, c5, b6, c6⟩ := wl46 h
  obtain ⟨y0, y1, y2, y3, y4, y5, y6, rfl, by0, by1, cy1, by2, cy2, by3, cy3, by4, cy4, by5, cy5, by6, cy6⟩ := wl46 h'
  show run H Tryz.prog ⟨10, 0, 0⟩ [D.str a0, D.sl a1, D.sl a2, D.sl a3, D.sl a4, D.sl a5, D.sl a6, D.str y0, D.sl y1, D.sl y2, D.sl y3, D.sl y4, D.sl y5, D.sl y6] = _
  rw [run_eq, g10_0_0_eq, g10_0_0]
  have w1 : WL H [D.sl a1, D.sl a2, D.sl a3, D.sl a4] L42 := WL.part 1 4 h0
  have w1p : WL H [D.sl y1, D.sl y2, D.sl y3, D.sl y4] L42 := WL.part 1 4 h0'
  have e1 := q45 w1 w1p
  simp only [List.cons_append, List.nil_append] at e1
  simp only [rn] at e1
  have e5 := q46 b5 by5 c5 cy5
  simp only [rn] at e5
  have e6 := q47 b6 by6 c6 cy6
  simp only [rn] at e6
  simp only [e1, e5, e6, Option.bind_some, nth, List.getD_cons_zero, List.getD_cons_succ, D.I, D.S, D.L, D.B]
  simp only [eq_step, eq_end, eqb_cons, eqb_nil, eqb_int, eqb_str, eqb_bool, eqb_sl, Bool.and_true, Bool.and_assoc]
def L133 : List CT := [.int .i64, .int .i64, .str, .sl 133]
theorem ty133 : H.ty 133 = some ⟨true, L133, [(0, 3), (1, 3), (2, 9), (3, 131)]⟩ := by kernel_rfl
theorem wl133 {ds : List D} (h : WL H ds L133) : ∃ a0 a1 a2 a3, ds = [D.int a0, D.int a1, D.str a2, D.sl a3] ∧ a2.size ≤ maxLen ∧ a3.length ≤ maxLen ∧ WRs H a3 L133 := by
  unfold L133 at h
  obtain ⟨a0, _, rfl, _, h⟩ := wl_int h
  obtain ⟨a1, _, rfl, _, h⟩ := wl_int h
  obtain ⟨a2, _, rfl, b2, h⟩ := wl_str h
  obtain ⟨a3, _, rfl, b3, c3, h⟩ := wl_sl ty133 h
  obtain rfl := wl_nil h
  exact ⟨a0, a1, a2, a3, rfl, b2, b3, c3⟩
def L306 : List CT := [.str, .int .i64, .int .i64, .str, .sl 133]
theorem ty306 : H.ty 306 = some ⟨true, L306, [(0, 9), (1, 133)]⟩ := by kernel_rfl
theorem wl306 {ds : List D} (h : WL H ds L306) : ∃ a0 a1 a2 a3 a4, ds = [D.str a0, D.int a1, D.int a2, D.str a3, D.sl a4] ∧ a0.size ≤ maxLen ∧ a3.size ≤ maxLen ∧ a4.length ≤ maxLen ∧ WRs H a4 L133 := by
  unfold L306 at h
  obtain ⟨a0, _, rfl, b0, h⟩ := wl_str h
  obtain ⟨a1, _, rfl, _, h⟩ := wl_int h
  obtain ⟨a2, _, rfl, _, h⟩ := wl_int h
  obtain ⟨a3, _, rfl, b3, h⟩ := wl_str h
  obtain ⟨a4, _, rfl, b4, c4, h⟩ := wl_sl ty133 h
  obtain rfl := wl_nil h
  exact ⟨a0, a1, a2, a3, a4, rfl, b0, b3, b4, c4⟩
theorem s184 {rs : Rows} (hl : rs.length ≤ maxLen) (hW : WRs H rs L133) (hel : ∀ r ∈ rs, ∀ b, Bd b → rn ⟨139, 0, 0⟩ (r ++ [.int b]) = some (0, [.int (sub b (szL r))])) {b : Int} (hb : Bd b) : rn ⟨184, 0, 0⟩ [.sl rs, .int b] = some (0, [.int (sub b (D.sz (.sl rs)))]) := by
  show run H Tryz.prog ⟨184, 0, 0⟩ _ = _
  rw [run_eq, g184_0_0_eq, g184_0_0]
  simp only [D.sz]
  refine sz_pay hb hl (F := fun c => (run H Tryz.prog ⟨184, 0, 1⟩ [.sl rs, .int c, .int 0]).bind fun r1 => bif Nat.beq r1.1 0 then some (0, [.int ((nth r1.2 0).I)]) else bif Nat.beq r1.1 1 then some (0, [.int ((nth r1.2 0).I)]) else none) fun c hc h0 => ?_
  have := sz_loop (F := fun i b => rn ⟨184, 0, 1⟩ [.sl rs, .int b, .int (i : Int)]) (rows := rs) (fun i hi b hb h0 => ?_) (fun b hb => ?_) hc h0
  · simp only [Int.natCast_zero] at this
    show ((rn _ _).bind _ = _)
    rw [this]
    split
    · rfl
    · rename_i hh; rw [sub_neg _ (by omega)]; rfl
  · have hw := WRs_mem hW (List.getElem_mem hi)
    obtain ⟨a0, a1, a2, a3, hr, b2, b3, c3⟩ := wl133 hw
    rw [hr] at hw
    have hc := hel rs[i] (List.getElem_mem hi) b hb
    generalize hq : szL rs[i] = q at hc ⊢
    rw [hr] at hc
    simp only [List.cons_append, List.nil_append, rn] at hc
    simp only [rn]
    rw [run_eq, g184_0_1_eq, g184_0_1]
    simp only [Int.toNat_natCast, rowAt_eq hi, hr, inbN, hi, decide_true, cond_true, Int.ofNat_lt, nth, List.getD_cons_zero, List.getD_cons_succ, D.I, D.S, D.L, D.B, wrap_succ hi hl]
    rw [hc]
    simp only [Option.bind_some, nth, List.getD_cons_zero, List.getD_cons_succ, D.I, D.S, D.L, D.B]
    by_cases hq : 0 ≤ sub b q
    · rw [if_pos hq, decide_eq_false (by omega)]; rfl
    · rw [if_neg hq, decide_eq_true (by omega)]; rfl
  · simp only [rn]
    rw [run_eq, g184_0_1_eq, g184_0_1]
    simp
theorem s139 : ∀ (N : Nat) (ds : List D), SizeOf.sizeOf ds < N → WL H ds L133 → ∀ b, Bd b → rn ⟨139, 0, 0⟩ (ds ++ [.int b]) = some (0, [.int (sub b (szL ds))])
  | 0, ds, hN, _, _, _ => absurd hN (Nat.not_lt_zero _)
  | N + 1, ds, hN, h, b, hb => by
    have h0 := h
    obtain ⟨a0, a1, a2, a3, rfl, b2, b3, c3⟩ := wl133 h
    show run H Tryz.prog ⟨139, 0, 0⟩ [D.int a0, D.int a1, D.str a2, D.sl a3, .int b] = _
    rw [run_eq, g139_0_0_eq, g139_0_0]
    rcases sz_case (b := b) hb b2 with ⟨hh, he⟩ | he
    · simp only [decide_eq_true hh, cond_true, Bool.cond_self]
      exact sub_dead he hb (by simp only [szL, D.sz]; omega)
    simp only [he]
    have e3 := s184 (b := (sub b a2.size)) b3 c3 (fun r hr b hb => s139 N r (by have h1 := size_row hr; simp only [List.cons.sizeOf_spec, D.sl.sizeOf_spec] at hN; omega) (WRs_mem c3 hr) b hb) (Bd.sub hb _)
    simp only [rn] at e3
    simp only [e3, Option.bind_some, nth, List.getD_cons_zero, List.getD_cons_succ, D.I, D.S, D.L, D.B]
    rw [sz_end _ (Bd.sub (Bd.sub hb _) _)]
    rw [sz_step _ (Bd.sub hb _)]
    rw [sub_sub hb]
    exact sub_congr (by simp only [szL, D.sz] <;> omega)
theorem s250 {ds : List D} (h : WL H ds L306) {b : Int} (hb : Bd b) : rn ⟨250, 0, 0⟩ (ds ++ [.int b]) = some (0, [.int (sub b (szL ds))]) := by
  have h0 := h
  obtain ⟨a0, a1, a2, a3, a4, rfl, b0, b3, b4, c4⟩ := wl306 h
  show run H Tryz.prog ⟨250, 0, 0⟩ [D.str a0, D.int a1, D.int a2, D.str a3, D.sl a4, .int b] = _
  rw [run_eq, g250_0_0_eq, g250_0_0]
  rcases sz_case (b := b) hb b0 with ⟨hh, he⟩ | he
  · simp only [decide_eq_true hh, cond_true, Bool.cond_self]
    exact sub_dead he hb (by simp only [szL, D.sz]; omega)
  simp only [he]
  have w1 : WL H [D.int a1, D.int a2, D.str a3, D.sl a4] L133 := WL.part 1 4 h0
  have e1 := s139 _ _ (Nat.lt_succ_self _) w1 (sub b a0.size) (Bd.sub hb _)
  simp only [List.cons_append, List.nil_append] at e1
  simp only [rn] at e1
  simp only [e1, Option.bind_some, nth, List.getD_cons_zero, List.getD_cons_succ, D.I, D.S, D.L, D.B]
  rw [sz_end _ (Bd.sub (Bd.sub hb _) _)]
  rw [sz_step _ (Bd.sub hb _)]
  rw [sub_sub hb]
  exact sub_congr (by simp only [szL, D.sz] <;> omega)
theorem s222 {rs : Rows} (hl : rs.length ≤ maxLen) (hW : WRs H rs L306) {b : Int} (hb : Bd b) : rn ⟨222, 0, 0⟩ [.sl rs, .int b] = some (0, [.int (sub b (D.sz (.sl rs)))]) := by
  show run H Tryz.prog ⟨222, 0, 0⟩ _ = _
  rw [run_eq, g222_0_0_eq, g222_0_0]
  simp only [D.sz]
  refine sz_pay hb hl (F := fun c => (run H Tryz.prog ⟨222, 0, 1⟩ [.sl rs, .int c, .int 0]).bind fun r1 => bif Nat.beq r1.1 0 then some (0, [.int ((nth r1.2 0).I)]) else bif Nat.beq r1.1 1 then some (0, [.int ((nth r1.2 0).I)]) else none) fun c hc h0 => ?_
  have := sz_loop (F := fun i b => rn ⟨222, 0, 1⟩ [.sl rs, .int b, .int (i : Int)]) (rows := rs) (fun i hi b hb h0 => ?_) (fun b hb => ?_) hc h0
  · simp only [Int.natCast_zero] at this
    show ((rn _ _).bind _ = _)
    rw [this]
    split
    · rfl
    · rename_i hh; rw [sub_neg _ (by omega)]; rfl
  · have hw := WRs_mem hW (List.getElem_mem hi)
    obtain ⟨a0, a1, a2, a3, a4, hr, b0, b3, b4, c4⟩ := wl306 hw
    rw [hr] at hw
    have hc := s250 hw hb
    rw [← hr] at hc
    generalize hq : szL rs[i] = q at hc ⊢
    rw [hr] at hc
    simp only [List.cons_append, List.nil_append, rn] at hc
    simp only [rn]
    rw [run_eq, g222_0_1_eq, g222_0_1]
    simp only [Int.toNat_natCast, rowAt_eq hi, hr, inbN, hi, decide_true, cond_true, Int.ofNat_lt, nth, List.getD_cons_zero, List.getD_cons_succ, D.I, D.S, D.L, D.B, wrap_succ hi hl]
    rw [hc]
    simp only [Option.bind_some, nth, List.getD_cons_zero, List.getD_cons_succ, D.I, D.S, D.L, D.B]
    by_cases hq : 0 ≤ sub b q
    · rw [if_pos hq, decide_eq_false (by omega)]; rfl
    · rw [if_neg hq, decide_eq_true (by omega)]; rfl
  · simp only [rn]
    rw [run_eq, g222_0_1_eq, g222_0_1]
    simp
def L243 : List CT := [.int .i64, .int .i64, .int .i64, .str, .sl 133, .int .i64, .int .i64, .str, .sl 133]
theorem ty243 : H.ty 243 = some ⟨true, L243, [(0, 3), (1, 133), (5, 133)]⟩ := by kernel_rfl
theorem wl243 {ds : List D} (h : WL H ds L243) : ∃ a0 a1 a2 a3 a4 a5 a6 a7 a8, ds = [D.int a0, D.int a1, D.int a2, D.str a3, D.sl a4, D.int a5, D.int a6, D.str a7, D.sl a8] ∧ a3.size ≤ maxLen ∧ a4.length ≤ maxLen ∧ WRs H a4 L133 ∧ a7.size ≤ maxLen ∧ a8.length ≤ maxLen ∧ WRs H a8 L133 := by
  unfold L243 at h
  obtain ⟨a0, _, rfl, _, h⟩ := wl_int h
  obtain ⟨a1, _, rfl, _, h⟩ := wl_int h
  obtain ⟨a2, _, rfl, _, h⟩ := wl_int h
  obtain ⟨a3, _, rfl, b3, h⟩ := wl_str h
  obtain ⟨a4, _, rfl, b4, c4, h⟩ := wl_sl ty133 h
  obtain ⟨a5, _, rfl, _, h⟩ := wl_int h
  obtain ⟨a6, _, rfl, _, h⟩ := wl_int h
  obtain ⟨a7, _, rfl, b7, h⟩ := wl_str h
  obtain ⟨a8, _, rfl, b8, c8, h⟩ := wl_sl ty133 h
  obtain rfl := wl_nil h
  exact ⟨a0, a1, a2, a3, a4, a5, a6, a7, a8, rfl, b3, b4, c4, b7, b8, c8⟩
def L136 : List CT := [.sl 9, .int .i64, .int .i64, .str, .sl 133, .int .i64, .int .i64, .str, .sl 133, .sl 243]
theorem ty136 : H.ty 136 = some ⟨true, L136, [(0, 22), (1, 133), (5, 133), (9, 134)]⟩ := by kernel_rfl
theorem wl136 {ds : List D} (h : WL H ds L136) : ∃ a0 a1 a2 a3 a4 a5 a6 a7 a8 a9, ds = [D.sl a0, D.int a1, D.int a2, D.str a3, D.sl a4, D.int a5, D.int a6, D.str a7, D.sl a8, D.sl a9] ∧ a0.length ≤ maxLen ∧ WRs H a0 L9 ∧ a3.size ≤ maxLen ∧ a4.length ≤ maxLen ∧ WRs H a4 L133 ∧ a7.size ≤ maxLen ∧ a8.length ≤ maxLen ∧ WRs H a8 L133 ∧ a9.length ≤ maxLen ∧ WRs H a9 L243 := by
  unfold L136 at h
  obtain ⟨a0, _, rfl, b0, c0, h⟩ := wl_sl ty9 h
  obtain ⟨a1, _, rfl, _, h⟩ := wl_int h
  obtain ⟨a2, _, rfl, _, h⟩ := wl_int h
  obtain ⟨a3, _, rfl, b3, h⟩ := wl_str h
  obtain ⟨a4, _, rfl, b4, c4, h⟩ := wl_sl ty133 h
  obtain ⟨a5, _, rfl, _, h⟩ := wl_int h
  obtain ⟨a6, _, rfl, _, h⟩ := wl_int h
  obtain ⟨a7, _, rfl, b7, h⟩ := wl_str h
  obtain ⟨a8, _, rfl, b8, c8, h⟩ := wl_sl ty133 h
  obtain ⟨a9, _, rfl, b9, c9, h⟩ := wl_sl ty243 h
  obtain rfl := wl_nil h
  exact ⟨a0, a1, a2, a3, a4, a5, a6, a7, a8, a9, rfl, b0, c0, b3, b4, c4, b7, b8, c8, b9, c9⟩
theorem s135 {rs : Rows} (hl : rs.length ≤ maxLen) (hW : WRs H rs L9) {b : Int} (hb : Bd b) : rn ⟨135, 0, 0⟩ [.sl rs, .int b] = some (0, [.int (sub b (D.sz (.sl rs)))]) := by
  show run H Tryz.prog ⟨135, 0, 0⟩ _ = _
  rw [run_eq, g135_0_0_eq, g135_0_0]
  simp only [D.sz]
  refine sz_pay hb hl (F := fun c => (run H Tryz.prog ⟨135, 0, 1⟩ [.sl rs, .int c, .int 0]).bind fun r1 => bif Nat.beq r1.1 0 then some (0, [.int ((nth r1.2 0).I)]) else bif Nat.beq r1.1 1 then some (0, [.int ((nth r1.2 0).I)]) else none) fun c hc h0 => ?_
  have := sz_loop (F := fun i b => rn ⟨135, 0, 1⟩ [.sl rs, .int b, .int (i : Int)]) (rows := rs) (fun i hi b hb h0 => ?_) (fun b hb => ?_) hc h0
  · simp only [Int.natCast_zero] at this
    show ((rn _ _).bind _ = _)
    rw [this]
    split
    · rfl
    · rename_i hh; rw [sub_neg _ (by omega)]; rfl
  · have hw := WRs_mem hW (List.getElem_mem hi)
    obtain ⟨a0, hr, b0⟩ := wl9 hw
    rw [hr] at hw
    have hz : szL [.str a0] = a0.size := by simp only [szL, D.sz]; rfl
    have hq : szL rs[i] = a0.size := by rw [hr]; simp only [szL, D.sz]; omega
    rw [hq]
    simp only [rn]
    rw [run_eq, g135_0_1_eq, g135_0_1]
    simp only [Int.toNat_natCast, rowAt_eq hi, hr, inbN, hi, decide_true, cond_true, Int.ofNat_lt, nth, List.getD_cons_zero, List.getD_cons_succ, D.I, D.S, D.L, D.B, wrap_succ hi hl]
    rcases sz_case hb b0 with ⟨hh, he⟩ | he
    · rw [decide_eq_true hh, if_neg (by rw [he]; decide)]; rfl
    · rw [he]
      by_cases hq : 0 ≤ sub b a0.size
      · rw [if_pos hq, decide_eq_false (by omega)]; rfl
      · rw [if_neg hq, decide_eq_true (by omega)]; rfl
  · simp only [rn]
    rw [run_eq, g135_0_1_eq, g135_0_1]
    simp
theorem s185 {ds : List D} (h : WL H ds L243) {b : Int} (hb : Bd b) : rn ⟨185, 0, 0⟩ (ds ++ [.int b]) = some (0, [.int (sub b (szL ds))]) := by
  have h0 := h
  obtain ⟨a0, a1, a2, a3, a4, a5, a6, a7, a8, rfl, b3, b4, c4, b7, b8, c8⟩ := wl243 h
  show run H Tryz.prog ⟨185, 0, 0⟩ [D.int a0, D.int a1, D.int a2, D.str a3, D.sl a4, D.int a5, D.int a6, D.str a7, D.sl a8, .int b] = _
  rw [run_eq, g185_0_0_eq, g185_0_0]
  have w1 : WL H [D.int a1, D.int a2, D.str a3, D.sl a4] L133 := WL.part 1 4 h0
  have e1 := s139 _ _ (Nat.lt_succ_self _) w1 b hb
  simp only [List.cons_append, List.nil_append] at e1
  simp only [rn] at e1
  simp only [e1, Option.bind_some, nth, List.getD_cons_zero, List.getD_cons_succ, D.I, D.S, D.L, D.B]
  have w5 : WL H [D.int a5, D.int a6, D.str a7, D.sl a8] L133 := WL.part 5 4 h0
  have e5 := s139 _ _ (Nat.lt_succ_self _) w5 (sub b (szL [D.int a1, D.int a2, D.str a3, D.sl a4])) (Bd.sub hb _)
  simp only [List.cons_append, List.nil_append] at e5
  simp only [rn] at e5
  simp only [e5, Option.bind_some, nth, List.getD_cons_zero, List.getD_cons_succ, D.I, D.S, D.L, D.B]
  rw [sz_end _ (Bd.sub (Bd.sub hb _) _)]
  rw [sz_step _ (Bd.sub hb _)]
  rw [sub_sub hb]
  exact sub_congr (by simp only [szL, D.sz] <;> omega)
theorem s140 {rs : Rows} (hl : rs.length ≤ maxLen) (hW : WRs H rs L243) {b : Int} (hb : Bd b) : rn ⟨140, 0, 0⟩ [.sl rs, .int b] = some (0, [.int (sub b (D.sz (.sl rs)))]) := by
  show run H Tryz.prog ⟨140, 0, 0⟩ _ = _
  rw [run_eq, g140_0_0_eq, g140_0_0]
  simp only [D.sz]
  refine sz_pay hb hl (F := fun c => (run H Tryz.prog ⟨140, 0, 1⟩ [.sl rs, .int c, .int 0]).bind fun r1 => bif Nat.beq r1.1 0 then some (0, [.int ((nth r1.2 0).I)]) else bif Nat.beq r1.1 1 then some (0, [.int ((nth r1.2 0).I)]) else none) fun c hc h0 => ?_
  have := sz_loop (F := fun i b => rn ⟨140, 0, 1⟩ [.sl rs, .int b, .int (i : Int)]) (rows := rs) (fun i hi b hb h0 => ?_) (fun b hb => ?_) hc h0
  · simp only [Int.natCast_zero] at this
    show ((rn _ _).bind _ = _)
    rw [this]
    split
    · rfl
    · rename_i hh; rw [sub_neg _ (by omega)]; rfl
  · have hw := WRs_mem hW (List.getElem_mem hi)
    obtain ⟨a0, a1, a2, a3, a4, a5, a6, a7, a8, hr, b3, b4, c4, b7, b8, c8⟩ := wl243 hw
    rw [hr] at hw
    have hc := s185 hw hb
    rw [← hr] at hc
    generalize hq : szL rs[i] = q at hc ⊢
    rw [hr] at hc
    simp only [List.cons_append, List.nil_append, rn] at hc
    simp only [rn]
    rw [run_eq, g140_0_1_eq, g140_0_1]
    simp only [Int.toNat_natCast, rowAt_eq hi, hr, inbN, hi, decide_true, cond_true, Int.ofNat_lt, nth, List.getD_cons_zero, List.getD_cons_succ, D.I, D.S, D.L, D.B, wrap_succ hi hl]
    rw [hc]
    simp only [Option.bind_some, nth, List.getD_cons_zero, List.getD_cons_succ, D.I, D.S, D.L, D.B]
    by_cases hq : 0 ≤ sub b q
    · rw [if_pos hq, decide_eq_false (by omega)]; rfl
    · rw [if_neg hq, decide_eq_true (by omega)]; rfl
  · simp only [rn]
    rw [run_eq, g140_0_1_eq, g140_0_1]
    simp
theorem s79 {ds : List D} (h : WL H ds L136) {b : Int} (hb : Bd b) : rn ⟨79, 0, 0⟩ (ds ++ [.int b]) = some (0, [.int (sub b (szL ds))]) := by
  have h0 := h
  obtain ⟨a0, a1, a2, a3, a4, a5, a6, a7, a8, a9, rfl, b0, c0, b3, b4, c4, b7, b8, c8, b9, c9⟩ := wl136 h
  show run H Tryz.prog ⟨79, 0, 0⟩ [D.sl a0, D.int a1, D.int a2, D.str a3, D.sl a4, D.int a5, D.int a6, D.str a7, D.sl a8, D.sl a9, .int b] = _
  rw [run_eq, g79_0_0_eq, g79_0_0]
  have e0 := s135 (b := b) b0 c0 hb
  simp only [rn] at e0
  simp only [e0, Option.bind_some, nth, List.getD_cons_zero, List.getD_cons_succ, D.I, D.S, D.L, D.B]
  have w1 : WL H [D.int a1, D.int a2, D.str a3, D.sl a4] L133 := WL.part 1 4 h0
  have e1 := s139 _ _ (Nat.lt_succ_self _) w1 (sub b (D.sz (.sl a0))) (Bd.sub hb _)
  simp only [List.cons_append, List.nil_append] at e1
  simp only [rn] at e1
  simp only [e1, Option.bind_some, nth, List.getD_cons_zero, List.getD_cons_succ, D.I, D.S, D.L, D.B]
  have w5 : WL H [D.int a5, D.int a6, D.str a7, D.sl a8] L133 := WL.part 5 4 h0
  have e5 := s139 _ _ (Nat.lt_succ_self _) w5 (sub (sub b (D.sz (.sl a0))) (szL [D.int a1, D.int a2, D.str a3, D.sl a4])) (Bd.sub (Bd.sub hb _) _)
  simp only [List.cons_append, List.nil_append] at e5
  simp only [rn] at e5
  simp only [e5, Option.bind_some, nth, List.getD_cons_zero, List.getD_cons_succ, D.I, D.S, D.L, D.B]
  have e9 := s140 (b := (sub (sub (sub b (D.sz (.sl a0))) (szL [D.int a1, D.int a2, D.str a3, D.sl a4])) (szL [D.int a5, D.int a6, D.str a7, D.sl a8]))) b9 c9 (Bd.sub (Bd.sub (Bd.sub hb _) _) _)
  simp only [rn] at e9
  simp only [e9, Option.bind_some, nth, List.getD_cons_zero, List.getD_cons_succ, D.I, D.S, D.L, D.B]
  rw [sz_end _ (Bd.sub (Bd.sub (Bd.sub (Bd.sub hb _) _) _) _)]
  rw [sz_step _ (Bd.sub (Bd.sub (Bd.sub hb _) _) _)]
  rw [sub_sub (Bd.sub (Bd.sub hb _) _)]
  rw [sz_step _ (Bd.sub (Bd.sub hb _) _)]
  rw [sub_sub (Bd.sub hb _)]
  rw [sz_step _ (Bd.sub hb _)]
  rw [sub_sub hb]
  exact sub_congr (by simp only [szL, D.sz] <;> omega)
theorem s32 {rs : Rows} (hl : rs.length ≤ maxLen) (hW : WRs H rs L136) {b : Int} (hb : Bd b) : rn ⟨32, 0, 0⟩ [.sl rs, .int b] = some (0, [.int (sub b (D.sz (.sl rs)))]) := by
  show run H Tryz.prog ⟨32, 0, 0⟩ _ = _
  rw [run_eq, g32_0_0_eq, g32_0_0]
  simp only [D.sz]
  refine sz_pay hb hl (F := fun c => (run H Tryz.prog ⟨32, 0, 1⟩ [.sl rs, .int c, .int 0]).bind fun r1 => bif Nat.beq r1.1 0 then some (0, [.int ((nth r1.2 0).I)]) else bif Nat.beq r1.1 1 then some (0, [.int ((nth r1.2 0).I)]) else none) fun c hc h0 => ?_
  have := sz_loop (F := fun i b => rn ⟨32, 0, 1⟩ [.sl rs, .int b, .int (i : Int)]) (rows := rs) (fun i hi b hb h0 => ?_) (fun b hb => ?_) hc h0
  · simp only [Int.natCast_zero] at this
    show ((rn _ _).bind _ = _)
    rw [this]
    split
    · rfl
    · rename_i hh; rw [sub_neg _ (by omega)]; rfl
  · have hw := WRs_mem hW (List.getElem_mem hi)
    obtain ⟨a0, a1, a2, a3, a4, a5, a6, a7, a8, a9, hr, b0, c0, b3, b4, c4, b7, b8, c8, b9, c9⟩ := wl136 hw
    rw [hr] at hw
    have hc := s79 hw hb
    rw [← hr] at hc
    generalize hq : szL rs[i] = q at hc ⊢
    rw [hr] at hc
    simp only [List.cons_append, List.nil_append, rn] at hc
    simp only [rn]
    rw [run_eq, g32_0_1_eq, g32_0_1]
    simp only [Int.toNat_natCast, rowAt_eq hi, hr, inbN, hi, decide_true, cond_true, Int.ofNat_lt, nth, List.getD_cons_zero, List.getD_cons_succ, D.I, D.S, D.L, D.B, wrap_succ hi hl]
    rw [hc]
    simp only [Option.bind_some, nth, List.getD_cons_zero, List.getD_cons_succ, D.I, D.S, D.L, D.B]
    by_cases hq : 0 ≤ sub b q
    · rw [if_pos hq, decide_eq_false (by omega)]; rfl
    · rw [if_neg hq, decide_eq_true (by omega)]; rfl
  · simp only [rn]
    rw [run_eq, g32_0_1_eq, g32_0_1]
    simp
def L239 : List CT := [.str, .sl 9, .str]
theorem ty239 : H.ty 239 = some ⟨true, L239, [(0, 9), (1, 22), (2, 9)]⟩ := by kernel_rfl
theorem wl239 {ds : List D} (h : WL H ds L239) : ∃ a0 a1 a2, ds = [D.str a0, D.sl a1, D.str a2] ∧ a0.size ≤ maxLen ∧ a1.length ≤ maxLen ∧ WRs H a1 L9 ∧ a2.size ≤ maxLen := by
  unfold L239 at h
  obtain ⟨a0, _, rfl, b0, h⟩ := wl_str h
  obtain ⟨a1, _, rfl, b1, c1, h⟩ := wl_sl ty9 h
  obtain ⟨a2, _, rfl, b2, h⟩ := wl_str h
  obtain rfl := wl_nil h
  exact ⟨a0, a1, a2, rfl, b0, b1, c1, b2⟩
def L200 : List CT := [.str, .int .i64, .int .i64, .str, .sl 133, .int .i64, .int .i64, .str, .sl 133, .sl 243]
theorem ty200 : H.ty 200 = some ⟨true, L200, [(0, 9), (1, 133), (5, 133), (9, 134)]⟩ := by kernel_rfl
theorem wl200 {ds : List D} (h : WL H ds L200) : ∃ a0 a1 a2 a3 a4 a5 a6 a7 a8 a9, ds = [D.str a0, D.int a1, D.int a2, D.str a3, D.sl a4, D.int a5, D.int a6, D.str a7, D.sl a8, D.sl a9] ∧ a0.size ≤ maxLen ∧ a3.size ≤ maxLen ∧ a4.length ≤ maxLen ∧ WRs H a4 L133 ∧ a7.size ≤ maxLen ∧ a8.length ≤ maxLen ∧ WRs H a8 L133 ∧ a9.length ≤ maxLen ∧ WRs H a9 L243 := by
  unfold L200 at h
  obtain ⟨a0, _, rfl, b0, h⟩ := wl_str h
  obtain ⟨a1, _, rfl, _, h⟩ := wl_int h
  obtain ⟨a2, _, rfl, _, h⟩ := wl_int h
  obtain ⟨a3, _, rfl, b3, h⟩ := wl_str h
  obtain ⟨a4, _, rfl, b4, c4, h⟩ := wl_sl ty133 h
  obtain ⟨a5, _, rfl, _, h⟩ := wl_int h
  obtain ⟨a6, _, rfl, _, h⟩ := wl_int h
  obtain ⟨a7, _, rfl, b7, h⟩ := wl_str h
  obtain ⟨a8, _, rfl, b8, c8, h⟩ := wl_sl ty133 h
  obtain ⟨a9, _, rfl, b9, c9, h⟩ := wl_sl ty243 h
  obtain rfl := wl_nil h
  exact ⟨a0, a1, a2, a3, a4, a5, a6, a7, a8, a9, rfl, b0, b3, b4, c4, b7, b8, c8, b9, c9⟩
def L202 : List CT := [.str, .int .i64]
theorem ty202 : H.ty 202 = some ⟨true, L202, [(0, 9), (1, 3)]⟩ := by kernel_rfl
theorem wl202 {ds : List D} (h : WL H ds L202) : ∃ a0 a1, ds = [D.str a0, D.int a1] ∧ a0.size ≤ maxLen := by
  unfold L202 at h
  obtain ⟨a0, _, rfl, b0, h⟩ := wl_str h
  obtain ⟨a1, _, rfl, _, h⟩ := wl_int h
  obtain rfl := wl_nil h
  exact ⟨a0, a1, rfl, b0⟩
def L29 : List CT := [.sl 9, .sl 239, .sl 200, .sl 202]
theorem ty29 : H.ty 29 = some ⟨true, L29, [(0, 25), (2, 26), (3, 27)]⟩ := by kernel_rfl
theorem wl29 {ds : List D} (h : WL H ds L29) : ∃ a0 a1 a2 a3, ds = [D.sl a0, D.sl a1, D.sl a2, D.sl a3] ∧ a0.length ≤ maxLen ∧ WRs H a0 L9 ∧ a1.length ≤ maxLen ∧ WRs H a1 L239 ∧ a2.length ≤ maxLen ∧ WRs H a2 L200 ∧ a3.length ≤ maxLen ∧ WRs H a3 L202 := by
  unfold L29 at h
  obtain ⟨a0, _, rfl, b0, c0, h⟩ := wl_sl ty9 h
  obtain ⟨a1, _, rfl, b1, c1, h⟩ := wl_sl ty239 h
  obtain ⟨a2, _, rfl, b2, c2, h⟩ := wl_sl ty200 h
  obtain ⟨a3, _, rfl, b3, c3, h⟩ := wl_sl ty202 h
  obtain rfl := wl_nil h
  exact ⟨a0, a1, a2, a3, rfl, b0, c0, b1, c1, b2, c2, b3, c3⟩
def L25 : List CT := [.sl 9, .sl 239]
theorem ty25 : H.ty 25 = some ⟨true, L25, [(0, 22), (1, 23)]⟩ := by kernel_rfl
theorem wl25 {ds : List D} (h : WL H ds L25) : ∃ a0 a1, ds = [D.sl a0, D.sl a1] ∧ a0.length ≤ maxLen ∧ WRs H a0 L9 ∧ a1.length ≤ maxLen ∧ WRs H a1 L239 := by
  unfold L25 at h
  obtain ⟨a0, _, rfl, b0, c0, h⟩ := wl_sl ty9 h
  obtain ⟨a1, _, rfl, b1, c1, h⟩ := wl_sl ty239 h
  obtain rfl := wl_nil h
  exact ⟨a0, a1, rfl, b0, c0, b1, c1⟩
theorem s183 {ds : List D} (h : WL H ds L239) {b : Int} (hb : Bd b) : rn ⟨183, 0, 0⟩ (ds ++ [.int b]) = some (0, [.int (sub b (szL ds))]) := by
  have h0 := h
  obtain ⟨a0, a1, a2, rfl, b0, b1, c1, b2⟩ := wl239 h
  show run H Tryz.prog ⟨183, 0, 0⟩ [D.str a0, D.sl a1, D.str a2, .int b] = _
  rw [run_eq, g183_0_0_eq, g183_0_0]
  rcases sz_case (b := b) hb b0 with ⟨hh, he⟩ | he
  · simp only [decide_eq_true hh, cond_true, Bool.cond_self]
    exact sub_dead he hb (by simp only [szL, D.sz]; omega)
  simp only [he]
  have e1 := s135 (b := (sub b a0.size)) b1 c1 (Bd.sub hb _)
  simp only [rn] at e1
  simp only [e1, Option.bind_some, nth, List.getD_cons_zero, List.getD_cons_succ, D.I, D.S, D.L, D.B]
  rcases sz_case (b := (sub (sub b a0.size) (D.sz (.sl a1)))) (Bd.sub (Bd.sub hb _) _) b2 with ⟨hh, he⟩ | he
  · simp only [decide_eq_true hh, cond_true, Bool.cond_self]
    rw [sub_sub (Bd.sub hb _)] at he
    rw [sub_sub hb] at he
    exact sub_dead he hb (by simp only [szL, D.sz]; omega)
  simp only [he]
  rw [sz_end _ (Bd.sub (Bd.sub (Bd.sub hb _) _) _)]
  rw [sz_step _ (Bd.sub (Bd.sub hb _) _)]
  rw [sub_sub (Bd.sub hb _)]
  rw [sz_step _ (Bd.sub hb _)]
  rw [sub_sub hb]
  exact sub_congr (by simp only [szL, D.sz] <;> omega)
theorem s136 {rs : Rows} (hl : rs.length ≤ maxLen) (hW : WRs H rs L239) {b : Int} (hb : Bd b) : rn ⟨136, 0, 0⟩ [.sl rs, .int b] = some (0, [.int (sub b (D.sz (.sl rs)))]) := by
  show run H Tryz.prog ⟨136, 0, 0⟩ _ = _
  rw [run_eq, g136_0_0_eq, g136_0_0]
  simp only [D.sz]
  refine sz_pay hb hl (F := fun c => (run H Tryz.prog ⟨136, 0, 1⟩ [.sl rs, .int c, .int 0]).bind fun r1 => bif Nat.beq r1.1 0 then some (0, [.int ((nth r1.2 0).I)]) else bif Nat.beq r1.1 1 then some (0, [.int ((nth r1.2 0).I)]) else none) fun c hc h0 => ?_
  have := sz_loop (F := fun i b => rn ⟨136, 0, 1⟩ [.sl rs, .int b, .int (i : Int)]) (rows := rs) (fun i hi b hb h0 => ?_) (fun b hb => ?_) hc h0
  · simp only [Int.natCast_zero] at this
    show ((rn _ _).bind _ = _)
    rw [this]
    split
    · rfl
    · rename_i hh; rw [sub_neg _ (by omega)]; rfl
  · have hw := WRs_mem hW (List.getElem_mem hi)
    obtain ⟨a0, a1, a2, hr, b0, b1, c1, b2⟩ := wl239 hw
    rw [hr] at hw
    have hc := s183 hw hb
    rw [← hr] at hc
    generalize hq : szL rs[i] = q at hc ⊢
    rw [hr] at hc
    simp only [List.cons_append, List.nil_append, rn] at hc
    simp only [rn]
    rw [run_eq, g136_0_1_eq, g136_0_1]
    simp only [Int.toNat_natCast, rowAt_eq hi, hr, inbN, hi, decide_true, cond_true, Int.ofNat_lt, nth, List.getD_cons_zero, List.getD_cons_succ, D.I, D.S, D.L, D.B, wrap_succ hi hl]
    rw [hc]
    simp only [Option.bind_some, nth, List.getD_cons_zero, List.getD_cons_succ, D.I, D.S, D.L, D.B]
    by_cases hq : 0 ≤ sub b q
    · rw [if_pos hq, decide_eq_false (by omega)]; rfl
    · rw [if_neg hq, decide_eq_true (by omega)]; rfl
  · simp only [rn]
    rw [run_eq, g136_0_1_eq, g136_0_1]
    simp
theorem s76 {ds : List D} (h : WL H ds L25) {b : Int} (hb : Bd b) : rn ⟨76, 0, 0⟩ (ds ++ [.int b]) = some (0, [.int (sub b (szL ds))]) := by
  have h0 := h
  obtain ⟨a0, a1, rfl, b0, c0, b1, c1⟩ := wl25 h
  show run H Tryz.prog ⟨76, 0, 0⟩ [D.sl a0, D.sl a1, .int b] = _
  rw [run_eq, g76_0_0_eq, g76_0_0]
  have e0 := s135 (b := b) b0 c0 hb
  simp only [rn] at e0
  simp only [e0, Option.bind_some, nth, List.getD_cons_zero, List.getD_cons_succ, D.I, D.S, D.L, D.B]
  have e1 := s136 (b := (sub b (D.sz (.sl a0)))) b1 c1 (Bd.sub hb _)
  simp only [rn] at e1
  simp only [e1, Option.bind_some, nth, List.getD_cons_zero, List.getD_cons_succ, D.I, D.S, D.L, D.B]
  rw [sz_end _ (Bd.sub (Bd.sub hb _) _)]
  rw [sz_step _ (Bd.sub hb _)]
  rw [sub_sub hb]
  exact sub_congr (by simp only [szL, D.sz] <;> omega)
theorem s137 {ds : List D} (h : WL H ds L200) {b : Int} (hb : Bd b) : rn ⟨137, 0, 0⟩ (ds ++ [.int b]) = some (0, [.int (sub b (szL ds))]) := by
  have h0 := h
  obtain ⟨a0, a1, a2, a3, a4, a5, a6, a7, a8, a9, rfl, b0, b3, b4, c4, b7, b8, c8, b9, c9⟩ := wl200 h
  show run H Tryz.prog ⟨137, 0, 0⟩ [D.str a0, D.int a1, D.int a2, D.str a3, D.sl a4, D.int a5, D.int a6, D.str a7, D.sl a8, D.sl a9, .int b] = _
  rw [run_eq, g137_0_0_eq, g137_0_0]
  rcases sz_case (b := b) hb b0 with ⟨hh, he⟩ | he
  · simp only [decide_eq_true hh, cond_true, Bool.cond_self]
    exact sub_dead he hb (by simp only [szL, D.sz]; omega)
  simp only [he]
  have w1 : WL H [D.int a1, D.int a2, D.str a3, D.sl a4] L133 := WL.part 1 4 h0
  have e1 := s139 _ _ (Nat.lt_succ_self _) w1 (sub b a0.size) (Bd.sub hb _)
  simp only [List.cons_append, List.nil_append] at e1
  simp only [rn] at e1
  simp only [e1, Option.bind_some, nth, List.getD_cons_zero, List.getD_cons_succ, D.I, D.S, D.L, D.B]
  have w5 : WL H [D.int a5, D.int a6, D.str a7, D.sl a8] L133 := WL.part 5 4 h0
  have e5 := s139 _ _ (Nat.lt_succ_self _) w5 (sub (sub b a0.size) (szL [D.int a1, D.int a2, D.str a3, D.sl a4])) (Bd.sub (Bd.sub hb _) _)
  simp only [List.cons_append, List.nil_append] at e5
  simp only [rn] at e5
  simp only [e5, Option.bind_some, nth, List.getD_cons_zero, List.getD_cons_succ, D.I, D.S, D.L, D.B]
  have e9 := s140 (b := (sub (sub (sub b a0.size) (szL [D.int a1, D.int a2, D.str a3, D.sl a4])) (szL [D.int a5, D.int a6, D.str a7, D.sl a8]))) b9 c9 (Bd.sub (Bd.sub (Bd.sub hb _) _) _)
  simp only [rn] at e9
  simp only [e9, Option.bind_some, nth, List.getD_cons_zero, List.getD_cons_succ, D.I, D.S, D.L, D.B]
  rw [sz_end _ (Bd.sub (Bd.sub (Bd.sub (Bd.sub hb _) _) _) _)]
  rw [sz_step _ (Bd.sub (Bd.sub (Bd.sub hb _) _) _)]
  rw [sub_sub (Bd.sub (Bd.sub hb _) _)]
  rw [sz_step _ (Bd.sub (Bd.sub hb _) _)]
  rw [sub_sub (Bd.sub hb _)]
  rw [sz_step _ (Bd.sub hb _)]
  rw [sub_sub hb]
  exact sub_congr (by simp only [szL, D.sz] <;> omega)
theorem s77 {rs : Rows} (hl : rs.length ≤ maxLen) (hW : WRs H rs L200) {b : Int} (hb : Bd b) : rn ⟨77, 0, 0⟩ [.sl rs, .int b] = some (0, [.int (sub b (D.sz (.sl rs)))]) := by
  show run H Tryz.prog ⟨77, 0, 0⟩ _ = _
  rw [run_eq, g77_0_0_eq, g77_0_0]
  simp only [D.sz]
  refine sz_pay hb hl (F := fun c => (run H Tryz.prog ⟨77, 0, 1⟩ [.sl rs, .int c, .int 0]).bind fun r1 => bif Nat.beq r1.1 0 then some (0, [.int ((nth r1.2 0).I)]) else bif Nat.beq r1.1 1 then some (0, [.int ((nth r1.2 0).I)]) else none) fun c hc h0 => ?_
  have := sz_loop (F := fun i b => rn ⟨77, 0, 1⟩ [.sl rs, .int b, .int (i : Int)]) (rows := rs) (fun i hi b hb h0 => ?_) (fun b hb => ?_) hc h0
  · simp only [Int.natCast_zero] at this
    show ((rn _ _).bind _ = _)
    rw [this]
    split
    · rfl
    · rename_i hh; rw [sub_neg _ (by omega)]; rfl
  · have hw := WRs_mem hW (List.getElem_mem hi)
    obtain ⟨a0, a1, a2, a3, a4, a5, a6, a7, a8, a9, hr, b0, b3, b4, c4, b7, b8, c8, b9, c9⟩ := wl200 hw
    rw [hr] at hw
    have hc := s137 hw hb
    rw [← hr] at hc
    generalize hq : szL rs[i] = q at hc ⊢
    rw [hr] at hc
    simp only [List.cons_append, List.nil_append, rn] at hc
    simp only [rn]
    rw [run_eq, g77_0_1_eq, g77_0_1]
    simp only [Int.toNat_natCast, rowAt_eq hi, hr, inbN, hi, decide_true, cond_true, Int.ofNat_lt, nth, List.getD_cons_zero, List.getD_cons_succ, D.I, D.S, D.L, D.B, wrap_succ hi hl]
    rw [hc]
    simp only [Option.bind_some, nth, List.getD_cons_zero, List.getD_cons_succ, D.I, D.S, D.L, D.B]
    by_cases hq : 0 ≤ sub b q
    · rw [if_pos hq, decide_eq_false (by omega)]; rfl
    · rw [if_neg hq, decide_eq_true (by omega)]; rfl
  · simp only [rn]
    rw [run_eq, g77_0_1_eq, g77_0_1]
    simp
theorem s138 {ds : List D} (h : WL H ds L202) {b : Int} (hb : Bd b) : rn ⟨138, 0, 0⟩ (ds ++ [.int b]) = some (0, [.int (sub b (szL ds))]) := by
  have h0 := h
  obtain ⟨a0, a1, rfl, b0⟩ := wl202 h
  show run H Tryz.prog ⟨138, 0, 0⟩ [D.str a0, D.int a1, .int b] = _
  rw [run_eq, g138_0_0_eq, g138_0_0]
  rcases sz_case (b := b) hb b0 with ⟨hh, he⟩ | he
  · simp only [decide_eq_true hh, cond_true, Bool.cond_self]
    exact sub_dead he hb (by simp only [szL, D.sz]; omega)
  simp only [he]
  rw [sz_end _ (Bd.sub hb _)]
  exact sub_congr (by simp only [szL, D.sz] <;> omega)
theorem s78 {rs : Rows} (hl : rs.length ≤ maxLen) (hW : WRs H rs L202) {b : Int} (hb : Bd b) : rn ⟨78, 0, 0⟩ [.sl rs, .int b] = some (0, [.int (sub b (D.sz (.sl rs)))]) := by
  show run H Tryz.prog ⟨78, 0, 0⟩ _ = _
  rw [run_eq, g78_0_0_eq, g78_0_0]
  simp only [D.sz]
  refine sz_pay hb hl (F := fun c => (run H Tryz.prog ⟨78, 0, 1⟩ [.sl rs, .int c, .int 0]).bind fun r1 => bif Nat.beq r1.1 0 then some (0, [.int ((nth r1.2 0).I)]) else bif Nat.beq r1.1 1 then some (0, [.int ((nth r1.2 0).I)]) else none) fun c hc h0 => ?_
  have := sz_loop (F := fun i b => rn ⟨78, 0, 1⟩ [.sl rs, .int b, .int (i : Int)]) (rows := rs) (fun i hi b hb h0 => ?_) (fun b hb => ?_) hc h0
  · simp only [Int.natCast_zero] at this
    show ((rn _ _).bind _ = _)
    rw [this]
    split
    · rfl
    · rename_i hh; rw [sub_neg _ (by omega)]; rfl
  · have hw := WRs_mem hW (List.getElem_mem hi)
    obtain ⟨a0, a1, hr, b0⟩ := wl202 hw
    rw [hr] at hw
    have hc := s138 hw hb
    rw [← hr] at hc
    generalize hq : szL rs[i] = q at hc ⊢
    rw [hr] at hc
    simp only [List.cons_append, List.nil_append, rn] at hc
    simp only [rn]
    rw [run_eq, g78_0_1_eq, g78_0_1]
    simp only [Int.toNat_natCast, rowAt_eq hi, hr, inbN, hi, decide_true, cond_true, Int.ofNat_lt, nth, List.getD_cons_zero, List.getD_cons_succ, D.I, D.S, D.L, D.B, wrap_succ hi hl]
    rw [hc]
    simp only [Option.bind_some, nth, List.getD_cons_zero, List.getD_cons_succ, D.I, D.S, D.L, D.B]
    by_cases hq : 0 ≤ sub b q
    · rw [if_pos hq, decide_eq_false (by omega)]; rfl
    · rw [if_neg hq, decide_eq_true (by omega)]; rfl
  · simp only [rn]
    rw [run_eq, g78_0_1_eq, g78_0_1]
    simp
theorem s31 {ds : List D} (h : WL H ds L29) {b : Int} (hb : Bd b) : rn ⟨31, 0, 0⟩ (ds ++ [.int b]) = some (0, [.int (sub b (szL ds))]) := by
  have h0 := h
  obtain ⟨a0, a1, a2, a3, rfl, b0, c0, b1, c1, b2, c2, b3, c3⟩ := wl29 h
  show run H Tryz.prog ⟨31, 0, 0⟩ [D.sl a0, D.sl a1, D.sl a2, D.sl a3, .int b] = _
  rw [run_eq, g31_0_0_eq, g31_0_0]
  have w0 : WL H [D.sl a0, D.sl a1] L25 := WL.part 0 2 h0
  have e0 := s76 w0 (b := b) hb
  simp only [List.cons_append, List.nil_append] at e0
  simp only [rn] at e0
  simp only [e0, Option.bind_some, nth, List.getD_cons_zero, List.getD_cons_succ, D.I, D.S, D.L, D.B]
  have e2 := s77 (b := (sub b (szL [D.sl a0, D.sl a1]))) b2 c2 (Bd.sub hb _)
  simp only [rn] at e2
  simp only [e2, Option.bind_some, nth, List.getD_cons_zero, List.getD_cons_succ, D.I, D.S, D.L, D.B]
  have e3 := s78 (b := (sub (sub b (szL [D.sl a0, D.sl a1])) (D.sz (.sl a2)))) b3 c3 (Bd.sub (Bd.sub hb _) _)
  simp only [rn] at e3
  simp only [e3, Option.bind_some, nth, List.getD_cons_zero, List.getD_cons_succ, D.I, D.S, D.L, D.B]
  rw [sz_end _ (Bd.sub (Bd.sub (Bd.sub hb _) _) _)]
  rw [sz_step _ (Bd.sub (Bd.sub hb _) _)]
  rw [sub_sub (Bd.sub hb _)]
  rw [sz_step _ (Bd.sub hb _)]
  rw [sub_sub hb]
  exact sub_congr (by simp only [szL, D.sz] <;> omega)
theorem s221 {rs : Rows} (hl : rs.length ≤ maxLen) (hW : WRs H rs L3) {b : Int} (hb : Bd b) : rn ⟨221, 0, 0⟩ [.sl rs, .int b] = some (0, [.int (sub b (D.sz (.sl rs)))]) := by
  show run H Tryz.prog ⟨221, 0, 0⟩ _ = _
  rw [run_eq, g221_0_0_eq, g221_0_0]
  simp only [D.sz]
  have hz : szR rs = 0 := by
    have : ∀ (l : Rows), WRs H l L3 → szR l = 0 := fun l => by
      induction l with
      | nil => intro _; rfl
      | cons r l ih =>
        intro hw
        simp only [WRs] at hw
        obtain ⟨a0, rfl⟩ := wl3 hw.1
        simp only [szR, szL, D.sz, ih hw.2]
    exact this rs hW
  rw [hz]
  exact sz_pay0 hb hl
def L247 : List CT := [.int .i64, .sl 3, .int .i64, .sl 306]
theorem ty247 : H.ty 247 = some ⟨true, L247, [(0, 3), (1, 58), (2, 3), (3, 245)]⟩ := by kernel_rfl
theorem wl247 {ds : List D} (h : WL H ds L247) : ∃ a0 a1 a2 a3, ds = [D.int a0, D.sl a1, D.int a2, D.sl a3] ∧ a1.length ≤ maxLen ∧ WRs H a1 L3 ∧ a3.length ≤ maxLen ∧ WRs H a3 L306 := by
  unfold L247 at h
  obtain ⟨a0, _, rfl, _, h⟩ := wl_int h
  obtain ⟨a1, _, rfl, b1, c1, h⟩ := wl_sl ty3 h
  obtain ⟨a2, _, rfl, _, h⟩ := wl_int h
  obtain ⟨a3, _, rfl, b3, c3, h⟩ := wl_sl ty306 h
  obtain rfl := wl_nil h
  exact ⟨a0, a1, a2, a3, rfl, b1, c1, b3, c3⟩
def L140 : List CT := [.sl 247]
theorem ty140 : H.ty 140 = some ⟨true, L140, [(0, 138)]⟩ := by kernel_rfl
theorem wl140 {ds : List D} (h : WL H ds L140) : ∃ a0, ds = [D.sl a0] ∧ a0.length ≤ maxLen ∧ WRs H a0 L247 := by
  unfold L140 at h
  obtain ⟨a0, _, rfl, b0, c0, h⟩ := wl_sl ty247 h
  obtain rfl := wl_nil h
  exact ⟨a0, rfl, b0, c0⟩
theorem s186 {ds : List D} (h : WL H ds L247) {b : Int} (hb : Bd b) : rn ⟨186, 0, 0⟩ (ds ++ [.int b]) = some (0, [.int (sub b (szL ds))]) := by
  have h0 := h
  obtain ⟨a0, a1, a2, a3, rfl, b1, c1, b3, c3⟩ := wl247 h
  show run H Tryz.prog ⟨186, 0, 0⟩ [D.int a0, D.sl a1, D.int a2, D.sl a3, .int b] = _
  rw [run_eq, g186_0_0_eq, g186_0_0]
  have e1 := s221 (b := b) b1 c1 hb
  simp only [rn] at e1
  simp only [e1, Option.bind_some, nth, List.getD_cons_zero, List.getD_cons_succ, D.I, D.S, D.L, D.B]
  have e3 := s222 (b := (sub b (D.sz (.sl a1)))) b3 c3 (Bd.sub hb _)
  simp only [rn] at e3
  simp only [e3, Option.bind_some, nth, List.getD_cons_zero, List.getD_cons_succ, D.I, D.S, D.L, D.B]
  rw [sz_end _ (Bd.sub (Bd.sub hb _) _)]
  rw [sz_step _ (Bd.sub hb _)]
  rw [sub_sub hb]
  exact sub_congr (by simp only [szL, D.sz] <;> omega)
theorem s141 {rs : Rows} (hl : rs.length ≤ maxLen) (hW : WRs H rs L247) {b : Int} (hb : Bd b) : rn ⟨141, 0, 0⟩ [.sl rs, .int b] = some (0, [.int (sub b (D.sz (.sl rs)))]) := by
  show run H Tryz.prog ⟨141, 0, 0⟩ _ = _
  rw [run_eq, g141_0_0_eq, g141_0_0]
  simp only [D.sz]
  refine sz_pay hb hl (F := fun c => (run H Tryz.prog ⟨141, 0, 1⟩ [.sl rs, .int c, .int 0]).bind fun r1 => bif Nat.beq r1.1 0 then some (0, [.int ((nth r1.2 0).I)]) else bif Nat.beq r1.1 1 then some (0, [.int ((nth r1.2 0).I)]) else none) fun c hc h0 => ?_
  have := sz_loop (F := fun i b => rn ⟨141, 0, 1⟩ [.sl rs, .int b, .int (i : Int)]) (rows := rs) (fun i hi b hb h0 => ?_) (fun b hb => ?_) hc h0
  · simp only [Int.natCast_zero] at this
    show ((rn _ _).bind _ = _)
    rw [this]
    split
    · rfl
    · rename_i hh; rw [sub_neg _ (by omega)]; rfl
  · have hw := WRs_mem hW (List.getElem_mem hi)
    obtain ⟨a0, a1, a2, a3, hr, b1, c1, b3, c3⟩ := wl247 hw
    rw [hr] at hw
    have hc := s186 hw hb
    rw [← hr] at hc
    generalize hq : szL rs[i] = q at hc ⊢
    rw [hr] at hc
    simp only [List.cons_append, List.nil_append, rn] at hc
    simp only [rn]
    rw [run_eq, g141_0_1_eq, g141_0_1]
    simp only [Int.toNat_natCast, rowAt_eq hi, hr, inbN, hi, decide_true, cond_true, Int.ofNat_lt, nth, List.getD_cons_zero, List.getD_cons_succ, D.I, D.S, D.L, D.B, wrap_succ hi hl]
    rw [hc]
    simp only [Option.bind_some, nth, List.getD_cons_zero, List.getD_cons_succ, D.I, D.S, D.L, D.B]
    by_cases hq : 0 ≤ sub b q
    · rw [if_pos hq, decide_eq_false (by omega)]; rfl
    · rw [if_neg hq, decide_eq_true (by omega)]; rfl
  · simp only [rn]
    rw [run_eq, g141_0_1_eq, g141_0_1]
    simp
theorem s80 {ds : List D} (h : WL H ds L140) {b : Int} (hb : Bd b) : rn ⟨80, 0, 0⟩ (ds ++ [.int b]) = some (0, [.int (sub b (szL ds))]) := by
  have h0 := h
  obtain ⟨a0, rfl, b0, c0⟩ := wl140 h
  show run H Tryz.prog ⟨80, 0, 0⟩ [D.sl a0, .int b] = _
  rw [run_eq, g80_0_0_eq, g80_0_0]
  have e0 := s141 (b := b) b0 c0 hb
  simp only [rn] at e0
  simp only [e0, Option.bind_some, nth, List.getD_cons_zero, List.getD_cons_succ, D.I, D.S, D.L, D.B]
  rw [sz_end _ (Bd.sub hb _)]
  exact sub_congr (by simp only [szL, D.sz] <;> omega)
theorem s33 {rs : Rows} (hl : rs.length ≤ maxLen) (hW : WRs H rs L140) {b : Int} (hb : Bd b) : rn ⟨33, 0, 0⟩ [.sl rs, .int b] = some (0, [.int (sub b (D.sz (.sl rs)))]) := by
  show run H Tryz.prog ⟨33, 0, 0⟩ _ = _
  rw [run_eq, g33_0_0_eq, g33_0_0]
  simp only [D.sz]
  refine sz_pay hb hl (F := fun c => (run H Tryz.prog ⟨33, 0, 1⟩ [.sl rs, .int c, .int 0]).bind fun r1 => bif Nat.beq r1.1 0 then some (0, [.int ((nth r1.2 0).I)]) else bif Nat.beq r1.1 1 then some (0, [.int ((nth r1.2 0).I)]) else none) fun c hc h0 => ?_
  have := sz_loop (F := fun i b => rn ⟨33, 0, 1⟩ [.sl rs, .int b, .int (i : Int)]) (rows := rs) (fun i hi b hb h0 => ?_) (fun b hb => ?_) hc h0
  · simp only [Int.natCast_zero] at this
    show ((rn _ _).bind _ = _)
    rw [this]
    split
    · rfl
    · rename_i hh; rw [sub_neg _ (by omega)]; rfl
  · have hw := WRs_mem hW (List.getElem_mem hi)
    obtain ⟨a0, hr, b0, c0⟩ := wl140 hw
    rw [hr] at hw
    have hc := s80 hw hb
    rw [← hr] at hc
    generalize hq : szL rs[i] = q at hc ⊢
    rw [hr] at hc
    simp only [List.cons_append, List.nil_append, rn] at hc
    simp only [rn]
    rw [run_eq, g33_0_1_eq, g33_0_1]
    simp only [Int.toNat_natCast, rowAt_eq hi, hr, inbN, hi, decide_true, cond_true, Int.ofNat_lt, nth, List.getD_cons_zero, List.getD_cons_succ, D.I, D.S, D.L, D.B, wrap_succ hi hl]
    rw [hc]
    simp only [Option.bind_some, nth, List.getD_cons_zero, List.getD_cons_succ, D.I, D.S, D.L, D.B]
    by_cases hq : 0 ≤ sub b q
    · rw [if_pos hq, decide_eq_false (by omega)]; rfl
    · rw [if_neg hq, decide_eq_true (by omega)]; rfl
  · simp only [rn]
    rw [run_eq, g33_0_1_eq, g33_0_1]
    simp
def L33 : List CT := [.str, .sl 9, .sl 239, .sl 200, .sl 202, .sl 136, .sl 140]
theorem ty33 : H.ty 33 = some ⟨true, L33, [(0, 9), (1, 29), (5, 30), (6, 31)]⟩ := by kernel_rfl
theorem wl33 {ds : List D} (h : WL H ds L33) : ∃ a0 a1 a2 a3 a4 a5 a6, ds = [D.str a0, D.sl a1, D.sl a2, D.sl a3, D.sl a4, D.sl a5, D.sl a6] ∧ a0.size ≤ maxLen ∧ a1.length ≤ maxLen ∧ WRs H a1 L9 ∧ a2.length ≤ maxLen ∧ WRs H a2 L239 ∧ a3.length ≤ maxLen ∧ WRs H a3 L200 ∧ a4.length ≤ maxLen ∧ WRs H a4 L202 ∧ a5.length ≤ maxLen ∧ WRs H a5 L136 ∧ a6.length ≤ maxLen ∧ WRs H a6 L140 := by
  unfold L33 at h
  obtain ⟨a0, _, rfl, b0, h⟩ := wl_str h
  obtain ⟨a1, _, rfl, b1, c1, h⟩ := wl_sl ty9 h
  obtain ⟨a2, _, rfl, b2, c2, h⟩ := wl_sl ty239 h
  obtain ⟨a3, _, rfl, b3, c3, h⟩ := wl_sl ty200 h
  obtain ⟨a4, _, rfl, b4, c4, h⟩ := wl_sl ty202 h
  obtain ⟨a5, _, rfl, b5, c5, h⟩ := wl_sl ty136 h
  obtain ⟨a6, _, rfl, b6, c6, h⟩ := wl_sl ty140 h
  obtain rfl := wl_nil h
  exact ⟨a0, a1, a2, a3, a4, a5, a6, rfl, b0, b1, c1, b2, c2, b3, c3, b4, c4, b5, c5, b6, c6⟩
theorem s6 {ds : List D} (h : WL H ds L33) {b : Int} (hb : Bd b) : rn ⟨6, 0, 0⟩ (ds ++ [.int b]) = some (0, [.int (sub b (szL ds))]) := by
  have h0 := h
  obtain ⟨a0, a1, a2, a3, a4, a5, a6, rfl, b0, b1, c1, b2, c2, b3, c3, b4, c4, b5, c5, b6, c6⟩ := wl33 h
  show run H Tryz.prog ⟨6, 0, 0⟩ [D.str a0, D.sl a1, D.sl a2, D.sl a3, D.sl a4, D.sl a5, D.sl a6, .int b] = _
  rw [run_eq, g6_0_0_eq, g6_0_0]
  rcases sz_case (b := b) hb b0 with ⟨hh, he⟩ | he
  · simp only [decide_eq_true hh, cond_true, Bool.cond_self]
    exact sub_dead he hb (by simp only [szL, D.sz]; omega)
  simp only [he]
  have w1 : WL H [D.sl a1, D.sl a2, D.sl a3, D.sl a4] L29 := WL.part 1 4 h0
  have e1 := s31 w1 (b := (sub b a0.size)) (Bd.sub hb _)
  simp only [List.cons_append, List.nil_append] at e1
  simp only [rn] at e1
  simp only [e1, Option.bind_some, nth, List.getD_cons_zero, List.getD_cons_succ, D.I, D.S, D.L, D.B]
  have e5 := s32 (b := (sub (sub b a0.size) (szL [D.sl a1, D.sl a2, D.sl a3, D.sl a4]))) b5 c5 (Bd.sub (Bd.sub hb _) _)
  simp only [rn] at e5
  simp only [e5, Option.bind_some, nth, List.getD_cons_zero, List.getD_cons_succ, D.I, D.S, D.L, D.B]
  have e6 := s33 (b := (sub (sub (sub b a0.size) (szL [D.sl a1, D.sl a2, D.sl a3, D.sl a4])) (D.sz (.sl a5)))) b6 c6 (Bd.sub (Bd.sub (Bd.sub hb _) _) _)
  simp only [rn] at e6
  simp only [e6, Option.bind_some, nth, List.getD_cons_zero, List.getD_cons_succ, D.I, D.S, D.L, D.B]
  rw [sz_end _ (Bd.sub (Bd.sub (Bd.sub (Bd.sub hb _) _) _) _)]
  rw [sz_step _ (Bd.sub (Bd.sub (Bd.sub hb _) _) _)]
  rw [sub_sub (Bd.sub (Bd.sub hb _) _)]
  rw [sz_step _ (Bd.sub (Bd.sub hb _) _)]
  rw [sub_sub (Bd.sub hb _)]
  rw [sz_step _ (Bd.sub hb _)]
  rw [sub_sub hb]
  exact sub_congr (by simp only [szL, D.sz] <;> omega)
theorem c188 {rs : Rows} (hz : rs.length + szR rs ≤ 1048576) (hW : WRs H rs L133) {N : Nat} (hN : ∀ r ∈ rs, SizeOf.sizeOf r < N) (hel : ∀ (a0 : Int) (a1 : Int) (a2 : ByteArray) (a3 : Rows), SizeOf.sizeOf ([D.int a0, D.int a1, D.str a2, D.sl a3] : List D) < N → szL [D.int a0, D.int a1, D.str a2, D.sl a3] ≤ 1048576 → WL H [D.int a0, D.int a1, D.str a2, D.sl a3] L133 → rn ⟨148, 0, 0⟩ [D.int a0, D.int a1, D.str a2, D.sl a3] = some (0, [D.int a0, D.int a1, D.str a2, D.sl a3])) : rn ⟨188, 0, 0⟩ [.sl rs] = some (0, [.sl rs]) := by
  show run H Tryz.prog ⟨188, 0, 0⟩ _ = _
  rw [run_eq, g188_0_0_eq, g188_0_0]
  have hf := fill_loop (F := fun i y => rn ⟨188, 0, 1⟩ [.sl rs, .int (i : Int), .sl y]) (rows := rs) (w := 4) (z := [.int 0, .int 0, .str (⟨#[]⟩ : ByteArray), .sl []]) rfl (fun r hr => (WRs_mem hW hr).len) (fun i hi y hy hyw => ?_) (fun y => ?_)
  · simp only [rn, Int.natCast_zero] at hf
    rw [decide_eq_true (by omega : (0 : Int) ≤ (rs.length : Int)), decide_eq_true (by unfold M63; omega : (rs.length : Int) ≤ (M63 : Int)), decide_eq_true rfl]
    simp only [Bool.and_self, cond_true, Int.toNat_natCast]
    rw [hf]
    rfl
  · have hw := WRs_mem hW (List.getElem_mem hi)
    have hzi := szR_mem (List.getElem_mem hi)
    obtain ⟨a0, a1, a2, a3, hr, b2, b3, c3⟩ := wl133 hw
    have hNi := hN _ (List.getElem_mem hi)
    rw [hr] at hw hzi hNi
    have hc := hel a0 a1 a2 a3 hNi (by omega) hw
    simp only [rn] at hc
    simp only [rn]
    rw [run_eq, g188_0_1_eq, g188_0_1]
    have hlen : rs.length ≤ maxLen := by unfold maxLen; omega
    have hi2 : i < y.length := by omega
    have hov : ∀ l : List D, l.length = 4 → over 0 l (rowAt y i) = l := fun l hl => over0_eq (by rw [rowAt_eq hi2, hyw _ (List.getElem_mem hi2), hl])
    simp only [Int.toNat_natCast, rowAt_eq hi, hr, inbN, hi, hi2, decide_true, cond_true, Int.ofNat_lt, nth, List.getD_cons_zero, List.getD_cons_succ, D.I, D.S, D.L, D.B, wrap_succ hi hlen]
    simp only [hc, Option.bind_some, nth, List.getD_cons_zero, List.getD_cons_succ, D.I, D.S, D.L, D.B]
    rw [hov _ rfl]
  · simp only [rn]
    rw [run_eq, g188_0_1_eq, g188_0_1]
    simp
theorem c148 : ∀ (N : Nat) (a0 : Int) (a1 : Int) (a2 : ByteArray) (a3 : Rows), SizeOf.sizeOf ([D.int a0, D.int a1, D.str a2, D.sl a3] : List D) < N → szL [D.int a0, D.int a1, D.str a2, D.sl a3] ≤ 1048576 → WL H [D.int a0, D.int a1, D.str a2, D.sl a3] L133 → rn ⟨148, 0, 0⟩ [D.int a0, D.int a1, D.str a2, D.sl a3] = some (0, [D.int a0, D.int a1, D.str a2, D.sl a3])
  | 0, a0, a1, a2, a3, hN, _, _ => absurd hN (Nat.not_lt_zero _)
  | N + 1, a0, a1, a2, a3, hN, hz, h => by
    obtain ⟨x0, x1, x2, x3, hh, bx2, bx3, cx3⟩ := wl133 h
    simp only [List.cons.injEq, D.int.injEq, D.bool.injEq, D.str.injEq, D.sl.injEq, and_true] at hh
    obtain ⟨rfl, rfl, rfl, rfl⟩ := hh
    show run H Tryz.prog ⟨148, 0, 0⟩ _ = _
    rw [run_eq, g148_0_0_eq, g148_0_0]
    simp only [szL, D.sz] at hz
    have e3 : rn ⟨188, 0, 0⟩ [.sl a3] = some (0, [.sl a3]) := c188 (by omega) cx3 (N := N) (fun r hr => by have h1 := size_row hr; simp only [List.cons.sizeOf_spec, D.sl.sizeOf_spec] at hN; omega) (c148 N)
    simp only [rn] at e3
    all_goals simp only [e3, Option.bind_some, nth, List.getD_cons_zero, List.getD_cons_succ, D.I, D.S, D.L, D.B]
theorem c251 {a0 : ByteArray} {a1 : Int} {a2 : Int} {a3 : ByteArray} {a4 : Rows} (hz : szL [D.str a0, D.int a1, D.int a2, D.str a3, D.sl a4] ≤ 1048576) (h : WL H [D.str a0, D.int a1, D.int a2, D.str a3, D.sl a4] L306) : rn ⟨251, 0, 0⟩ [D.str a0, D.int a1, D.int a2, D.str a3, D.sl a4] = some (0, [D.str a0, D.int a1, D.int a2, D.str a3, D.sl a4]) := by
  obtain ⟨x0, x1, x2, x3, x4, hh, bx0, bx3, bx4, cx4⟩ := wl306 h
  simp only [List.cons.injEq, D.int.injEq, D.bool.injEq, D.str.injEq, D.sl.injEq, and_true] at hh
  obtain ⟨rfl, rfl, rfl, rfl, rfl⟩ := hh
  show run H Tryz.prog ⟨251, 0, 0⟩ _ = _
  rw [run_eq, g251_0_0_eq, g251_0_0]
  simp only [szL, D.sz] at hz
  have w1 : WL H [D.int a1, D.int a2, D.str a3, D.sl a4] L133 := WL.part 1 4 h
  have e1 := c148 _ a1 a2 a3 a4 (Nat.lt_succ_self _) (by simp only [szL, D.sz]; omega) w1
  simp only [rn] at e1
  all_goals simp only [e1, Option.bind_some, nth, List.getD_cons_zero, List.getD_cons_succ, D.I, D.S, D.L, D.B]
theorem c224 {rs : Rows} (hz : rs.length + szR rs ≤ 1048576) (hW : WRs H rs L306) : rn ⟨224, 0, 0⟩ [.sl rs] = some (0, [.sl rs]) := by
  show run H Tryz.prog ⟨224, 0, 0⟩ _ = _
  rw [run_eq, g224_0_0_eq, g224_0_0]
  have hf := fill_loop (F := fun i y => rn ⟨224, 0, 1⟩ [.sl rs, .int (i : Int), .sl y]) (rows := rs) (w := 5) (z := [.str (⟨#[]⟩ : ByteArray), .int 0, .int 0, .str (⟨#[]⟩ : ByteArray), .sl []]) rfl (fun r hr => (WRs_mem hW hr).len) (fun i hi y hy hyw => ?_) (fun y => ?_)
  · simp only [rn, Int.natCast_zero] at hf
    rw [decide_eq_true (by omega : (0 : Int) ≤ (rs.length : Int)), decide_eq_true (by unfold M63; omega : (rs.length : Int) ≤ (M63 : Int)), decide_eq_true rfl]
    simp only [Bool.and_self, cond_true, Int.toNat_natCast]
    rw [hf]
    rfl
  · have hw := WRs_mem hW (List.getElem_mem hi)
    have hzi := szR_mem (List.getElem_mem hi)
    obtain ⟨a0, a1, a2, a3, a4, hr, b0, b3, b4, c4⟩ := wl306 hw
    rw [hr] at hw hzi
    have hc := c251 (by omega) hw
    simp only [rn] at hc
    simp only [rn]
    rw [run_eq, g224_0_1_eq, g224_0_1]
    have hlen : rs.length ≤ maxLen := by unfold maxLen; omega
    have hi2 : i < y.length := by omega
    have hov : ∀ l : List D, l.length = 5 → over 0 l (rowAt y i) = l := fun l hl => over0_eq (by rw [rowAt_eq hi2, hyw _ (List.getElem_mem hi2), hl])
    simp only [Int.toNat_natCast, rowAt_eq hi, hr, inbN, hi, hi2, decide_true, cond_true, Int.ofNat_lt, nth, List.getD_cons_zero, List.getD_cons_succ, D.I, D.S, D.L, D.B, wrap_succ hi hlen]
    simp only [hc, Option.bind_some, nth, List.getD_cons_zero, List.getD_cons_succ, D.I, D.S, D.L, D.B]
    rw [hov _ rfl]
  · simp only [rn]
    rw [run_eq, g224_0_1_eq, g224_0_1]
    simp
theorem c144 {rs : Rows} (hz : rs.length + szR rs ≤ 1048576) (hW : WRs H rs L9) : rn ⟨144, 0, 0⟩ [.sl rs] = some (0, [.sl rs]) := by
  show run H Tryz.prog ⟨144, 0, 0⟩ _ = _
  rw [run_eq, g144_0_0_eq, g144_0_0]
  have hf := fill_loop (F := fun i y => rn ⟨144, 0, 1⟩ [.sl rs, .int (i : Int), .sl y]) (rows := rs) (w := 1) (z := [.str (⟨#[]⟩ : ByteArray)]) rfl (fun r hr => (WRs_mem hW hr).len) (fun i hi y hy hyw => ?_) (fun y => ?_)
  · simp only [rn, Int.natCast_zero] at hf
    rw [decide_eq_true (by omega : (0 : Int) ≤ (rs.length : Int)), decide_eq_true (by unfold M63; omega : (rs.length : Int) ≤ (M63 : Int)), decide_eq_true rfl]
    simp only [Bool.and_self, cond_true, Int.toNat_natCast]
    rw [hf]
    rfl
  · have hw := WRs_mem hW (List.getElem_mem hi)
    have hzi := szR_mem (List.getElem_mem hi)
    obtain ⟨a0, hr, b0⟩ := wl9 hw
    rw [hr] at hw hzi
    simp only [rn]
    rw [run_eq, g144_0_1_eq, g144_0_1]
    have hlen : rs.length ≤ maxLen := by unfold maxLen; omega
    have hi2 : i < y.length := by omega
    have hov : ∀ l : List D, l.length = 1 → over 0 l (rowAt y i) = l := fun l hl => over0_eq (by rw [rowAt_eq hi2, hyw _ (List.getElem_mem hi2), hl])
    simp only [Int.toNat_natCast, rowAt_eq hi, hr, inbN, hi, hi2, decide_true, cond_true, Int.ofNat_lt, nth, List.getD_cons_zero, List.getD_cons_succ, D.I, D.S, D.L, D.B, wrap_succ hi hlen]
    rw [hov _ rfl]
  · simp only [rn]
    rw [run_eq, g144_0_1_eq, g144_0_1]
    simp
theorem c189 {a0 : Int} {a1 : Int} {a2 : Int} {a3 : ByteArray} {a4 : Rows} {a5 : Int} {a6 : Int} {a7 : ByteArray} {a8 : Rows} (hz : szL [D.int a0, D.int a1, D.int a2, D.str a3, D.sl a4, D.int a5, D.int a6, D.str a7, D.sl a8] ≤ 1048576) (h : WL H [D.int a0, D.int a1, D.int a2, D.str a3, D.sl a4, D.int a5, D.int a6, D.str a7, D.sl a8] L243) : rn ⟨189, 0, 0⟩ [D.int a0, D.int a1, D.int a2, D.str a3, D.sl a4, D.int a5, D.int a6, D.str a7, D.sl a8] = some (0, [D.int a0, D.int a1, D.int a2, D.str a3, D.int a5, D.int a6, D.str a7, D.sl a4, D.sl a8]) := by
  obtain ⟨x0, x1, x2, x3, x4, x5, x6, x7, x8, hh, bx3, bx4, cx4, bx7, bx8, cx8⟩ := wl243 h
  simp only [List.cons.injEq, D.int.injEq, D.bool.injEq, D.str.injEq, D.sl.injEq, and_true] at hh
  obtain ⟨rfl, rfl, rfl, rfl, rfl, rfl, rfl, rfl, rfl⟩ := hh
  show run H Tryz.prog ⟨189, 0, 0⟩ _ = _
  rw [run_eq, g189_0_0_eq, g189_0_0]
  simp only [szL, D.sz] at hz
  have w1 : WL H [D.int a1, D.int a2, D.str a3, D.sl a4] L133 := WL.part 1 4 h
  have e1 := c148 _ a1 a2 a3 a4 (Nat.lt_succ_self _) (by simp only [szL, D.sz]; omega) w1
  simp only [rn] at e1
  have w5 : WL H [D.int a5, D.int a6, D.str a7, D.sl a8] L133 := WL.part 5 4 h
  have e5 := c148 _ a5 a6 a7 a8 (Nat.lt_succ_self _) (by simp only [szL, D.sz]; omega) w5
  simp only [rn] at e5
  all_goals simp only [e1, e5, Option.bind_some, nth, List.getD_cons_zero, List.getD_cons_succ, D.I, D.S, D.L, D.B]
theorem c149 {rs : Rows} (hz : rs.length + szR rs ≤ 1048576) (hW : WRs H rs L243) : rn ⟨149, 0, 0⟩ [.sl rs] = some (0, [.sl rs]) := by
  show run H Tryz.prog ⟨149, 0, 0⟩ _ = _
  rw [run_eq, g149_0_0_eq, g149_0_0]
  have hf := fill_loop (F := fun i y => rn ⟨149, 0, 1⟩ [.sl rs, .int (i : Int), .sl y]) (rows := rs) (w := 9) (z := [.int 0, .int 0, .int 0, .str (⟨#[]⟩ : ByteArray), .sl [], .int 0, .int 0, .str (⟨#[]⟩ : ByteArray), .sl []]) rfl (fun r hr => (WRs_mem hW hr).len) (fun i hi y hy hyw => ?_) (fun y => ?_)
  · simp only [rn, Int.natCast_zero] at hf
    rw [decide_eq_true (by omega : (0 : Int) ≤ (rs.length : Int)), decide_eq_true (by unfold M63; omega : (rs.length : Int) ≤ (M63 : Int)), decide_eq_true rfl]
    simp only [Bool.and_self, cond_true, Int.toNat_natCast]
    rw [hf]
    rfl
  · have hw := WRs_mem hW (List.getElem_mem hi)
    have hzi := szR_mem (List.getElem_mem hi)
    obtain ⟨a0, a1, a2, a3, a4, a5, a6, a7, a8, hr, b3, b4, c4, b7, b8, c8⟩ := wl243 hw
    rw [hr] at hw hzi
    have hc := c189 (by omega) hw
    simp only [rn] at hc
    simp only [rn]
    rw [run_eq, g149_0_1_eq, g149_0_1]
    have hlen : rs.length ≤ maxLen := by unfold maxLen; omega
    have hi2 : i < y.length := by omega
    have hov : ∀ l : List D, l.length = 9 → over 0 l (rowAt y i) = l := fun l hl => over0_eq (by rw [rowAt_eq hi2, hyw _ (List.getElem_mem hi2), hl])
    simp only [Int.toNat_natCast, rowAt_eq hi, hr, inbN, hi, hi2, decide_true, cond_true, Int.ofNat_lt, nth, List.getD_cons_zero, List.getD_cons_succ, D.I, D.S, D.L, D.B, wrap_succ hi hlen]
    simp only [hc, Option.bind_some, nth, List.getD_cons_zero, List.getD_cons_succ, D.I, D.S, D.L, D.B]
    rw [hov _ rfl]
  · simp only [rn]
    rw [run_eq, g149_0_1_eq, g149_0_1]
    simp
theorem c88 {a0 : Rows} {a1 : Int} {a2 : Int} {a3 : ByteArray} {a4 : Rows} {a5 : Int} {a6 : Int} {a7 : ByteArray} {a8 : Rows} {a9 : Rows} (hz : szL [D.sl a0, D.int a1, D.int a2, D.str a3, D.sl a4, D.int a5, D.int a6, D.str a7, D.sl a8, D.sl a9] ≤ 1048576) (h : WL H [D.sl a0, D.int a1, D.int a2, D.str a3, D.sl a4, D.int a5, D.int a6, D.str a7, D.sl a8, D.sl a9] L136) : rn ⟨88, 0, 0⟩ [D.sl a0, D.int a1, D.int a2, D.str a3, D.sl a4, D.int a5, D.int a6, D.str a7, D.sl a8, D.sl a9] = some (0, [D.int a1, D.int a2, D.str a3, D.int a5, D.int a6, D.str a7, D.sl a0, D.sl a4, D.sl a8, D.sl a9]) := by
  obtain ⟨x0, x1, x2, x3, x4, x5, x6, x7, x8, x9, hh, bx0, cx0, bx3, bx4, cx4, bx7, bx8, cx8, bx9, cx9⟩ := wl136 h
  simp only [List.cons.injEq, D.int.injEq, D.bool.injEq, D.str.injEq, D.sl.injEq, and_true] at hh
  obtain ⟨rfl, rfl, rfl, rfl, rfl, rfl, rfl, rfl, rfl, rfl⟩ := hh
  show run H Tryz.prog ⟨88, 0, 0⟩ _ = _
  rw [run_eq, g88_0_0_eq, g88_0_0]
  simp only [szL, D.sz] at hz
  have e0 := c144 (rs := a0) (by omega) cx0
  simp only [rn] at e0
  have w1 : WL H [D.int a1, D.int a2, D.str a3, D.sl a4] L133 := WL.part 1 4 h
  have e1 := c148 _ a1 a2 a3 a4 (Nat.lt_succ_self _) (by simp only [szL, D.sz]; omega) w1
  simp only [rn] at e1
  have w5 : WL H [D.int a5, D.int a6, D.str a7, D.sl a8] L133 := WL.part 5 4 h
  have e5 := c148 _ a5 a6 a7 a8 (Nat.lt_succ_self _) (by simp only [szL, D.sz]; omega) w5
  simp only [rn] at e5
  have e9 := c149 (rs := a9) (by omega) cx9
  simp only [rn] at e9
  all_goals simp only [e0, e1, e5, e9, Option.bind_some, nth, List.getD_cons_zero, List.getD_cons_succ, D.I, D.S, D.L, D.B]
theorem c38 {rs : Rows} (hz : rs.length + szR rs ≤ 1048576) (hW : WRs H rs L136) : rn ⟨38, 0, 0⟩ [.sl rs] = some (0, [.sl rs]) := by
  show run H Tryz.prog ⟨38, 0, 0⟩ _ = _
  rw [run_eq, g38_0_0_eq, g38_0_0]
  have hf := fill_loop (F := fun i y => rn ⟨38, 0, 1⟩ [.sl rs, .int (i : Int), .sl y]) (rows := rs) (w := 10) (z := [.sl [], .int 0, .int 0, .str (⟨#[]⟩ : ByteArray), .sl [], .int 0, .int 0, .str (⟨#[]⟩ : ByteArray), .sl [], .sl []]) rfl (fun r hr => (WRs_mem hW hr).len) (fun i hi y hy hyw => ?_) (fun y => ?_)
  · simp only [rn, Int.natCast_zero] at hf
    rw [decide_eq_true (by omega : (0 : Int) ≤ (rs.length : Int)), decide_eq_true (by unfold M63; omega : (rs.length : Int) ≤ (M63 : Int)), decide_eq_true rfl]
    simp only [Bool.and_self, cond_true, Int.toNat_natCast]
    rw [hf]
    rfl
  · have hw := WRs_mem hW (List.getElem_mem hi)
    have hzi := szR_mem (List.getElem_mem hi)
    obtain ⟨a0, a1, a2, a3, a4, a5, a6, a7, a8, a9, hr, b0, c0, b3, b4, c4, b7, b8, c8, b9, c9⟩ := wl136 hw
    rw [hr] at hw hzi
    have hc := c88 (by omega) hw
    simp only [rn] at hc
    simp only [rn]
    rw [run_eq, g38_0_1_eq, g38_0_1]
    have hlen : rs.length ≤ maxLen := by unfold maxLen; omega
    have hi2 : i < y.length := by omega
    have hov : ∀ l : List D, l.length = 10 → over 0 l (rowAt y i) = l := fun l hl => over0_eq (by rw [rowAt_eq hi2, hyw _ (List.getElem_mem hi2), hl])
    simp only [Int.toNat_natCast, rowAt_eq hi, hr, inbN, hi, hi2, decide_true, cond_true, Int.ofNat_lt, nth, List.getD_cons_zero, List.getD_cons_succ, D.I, D.S, D.L, D.B, wrap_succ hi hlen]
    simp only [hc, Option.bind_some, nth, List.getD_cons_zero, List.getD_cons_succ, D.I, D.S, D.L, D.B]
    rw [hov _ rfl]
  · simp only [rn]
    rw [run_eq, g38_0_1_eq, g38_0_1]
    simp
theorem c187 {a0 : ByteArray} {a1 : Rows} {a2 : ByteArray} (hz : szL [D.str a0, D.sl a1, D.str a2] ≤ 1048576) (h : WL H [D.str a0, D.sl a1, D.str a2] L239) : rn ⟨187, 0, 0⟩ [D.str a0, D.sl a1, D.str a2] = some (0, [D.str a0, D.str a2, D.sl a1]) := by
  obtain ⟨x0, x1, x2, hh, bx0, bx1, cx1, bx2⟩ := wl239 h
  simp only [List.cons.injEq, D.int.injEq, D.bool.injEq, D.str.injEq, D.sl.injEq, and_true] at hh
  obtain ⟨rfl, rfl, rfl⟩ := hh
  show run H Tryz.prog ⟨187, 0, 0⟩ _ = _
  rw [run_eq, g187_0_0_eq, g187_0_0]
  simp only [szL, D.sz] at hz
  have e1 := c144 (rs := a1) (by omega) cx1
  simp only [rn] at e1
  all_goals simp only [e1, Option.bind_some, nth, List.getD_cons_zero, List.getD_cons_succ, D.I, D.S, D.L, D.B]
theorem c145 {rs : Rows} (hz : rs.length + szR rs ≤ 1048576) (hW : WRs H rs L239) : rn ⟨145, 0, 0⟩ [.sl rs] = some (0, [.sl rs]) := by
  show run H Tryz.prog ⟨145, 0, 0⟩ _ = _
  rw [run_eq, g145_0_0_eq, g145_0_0]
  have hf := fill_loop (F := fun i y => rn ⟨145, 0, 1⟩ [.sl rs, .int (i : Int), .sl y]) (rows := rs) (w := 3) (z := [.str (⟨#[]⟩ : ByteArray), .sl [], .str (⟨#[]⟩ : ByteArray)]) rfl (fun r hr => (WRs_mem hW hr).len) (fun i hi y hy hyw => ?_) (fun y => ?_)
  · simp only [rn, Int.natCast_zero] at hf
    rw [decide_eq_true (by omega : (0 : Int) ≤ (rs.length : Int)), decide_eq_true (by unfold M63; omega : (rs.length : Int) ≤ (M63 : Int)), decide_eq_true rfl]
    simp only [Bool.and_self, cond_true, Int.toNat_natCast]
    rw [hf]
    rfl
  · have hw := WRs_mem hW (List.getElem_mem hi)
    have hzi := szR_mem (List.getElem_mem hi)
    obtain ⟨a0, a1, a2, hr, b0, b1, c1, b2⟩ := wl239 hw
    rw [hr] at hw hzi
    have hc := c187 (by omega) hw
    simp only [rn] at hc
    simp only [rn]
    rw [run_eq, g145_0_1_eq, g145_0_1]
    have hlen : rs.length ≤ maxLen := by unfold maxLen; omega
    have hi2 : i < y.length := by omega
    have hov : ∀ l : List D, l.length = 3 → over 0 l (rowAt y i) = l := fun l hl => over0_eq (by rw [rowAt_eq hi2, hyw _ (List.getElem_mem hi2), hl])
    simp only [Int.toNat_natCast, rowAt_eq hi, hr, inbN, hi, hi2, decide_true, cond_true, Int.ofNat_lt, nth, List.getD_cons_zero, List.getD_cons_succ, D.I, D.S, D.L, D.B, wrap_succ hi hlen]
    simp only [hc, Option.bind_some, nth, List.getD_cons_zero, List.getD_cons_succ, D.I, D.S, D.L, D.B]
    rw [hov _ rfl]
  · simp only [rn]
    rw [run_eq, g145_0_1_eq, g145_0_1]
    simp
theorem c85 {a0 : Rows} {a1 : Rows} (hz : szL [D.sl a0, D.sl a1] ≤ 1048576) (h : WL H [D.sl a0, D.sl a1] L25) : rn ⟨85, 0, 0⟩ [D.sl a0, D.sl a1] = some (0, [D.sl a0, D.sl a1]) := by
  obtain ⟨x0, x1, hh, bx0, cx0, bx1, cx1⟩ := wl25 h
  simp only [List.cons.injEq, D.int.injEq, D.bool.injEq, D.str.injEq, D.sl.injEq, and_true] at hh
  obtain ⟨rfl, rfl⟩ := hh
  show run H Tryz.prog ⟨85, 0, 0⟩ _ = _
  rw [run_eq, g85_0_0_eq, g85_0_0]
  simp only [szL, D.sz] at hz
  have e0 := c144 (rs := a0) (by omega) cx0
  simp only [rn] at e0
  have e1 := c145 (rs := a1) (by omega) cx1
  simp only [rn] at e1
  all_goals simp only [e0, e1, Option.bind_some, nth, List.getD_cons_zero, List.getD_cons_succ, D.I, D.S, D.L, D.B]
theorem c146 {a0 : ByteArray} {a1 : Int} {a2 : Int} {a3 : ByteArray} {a4 : Rows} {a5 : Int} {a6 : Int} {a7 : ByteArray} {a8 : Rows} {a9 : Rows} (hz : szL [D.str a0, D.int a1, D.int a2, D.str a3, D.sl a4, D.int a5, D.int a6, D.str a7, D.sl a8, D.sl a9] ≤ 1048576) (h : WL H [D.str a0, D.int a1, D.int a2, D.str a3, D.sl a4, D.int a5, D.int a6, D.str a7, D.sl a8, D.sl a9] L200) : rn ⟨146, 0, 0⟩ [D.str a0, D.int a1, D.int a2, D.str a3, D.sl a4, D.int a5, D.int a6, D.str a7, D.sl a8, D.sl a9] = some (0, [D.str a0, D.int a1, D.int a2, D.str a3, D.int a5, D.int a6, D.str a7, D.sl a4, D.sl a8, D.sl a9]) := by
  obtain ⟨x0, x1, x2, x3, x4, x5, x6, x7, x8, x9, hh, bx0, bx3, bx4, cx4, bx7, bx8, cx8, bx9, cx9⟩ := wl200 h
  simp only [List.cons.injEq, D.int.injEq, D.bool.injEq, D.str.injEq, D.sl.injEq, and_true] at hh
  obtain ⟨rfl, rfl, rfl, rfl, rfl, rfl, rfl, rfl, rfl, rfl⟩ := hh
  show run H Tryz.prog ⟨146, 0, 0⟩ _ = _
  rw [run_eq, g146_0_0_eq, g146_0_0]
  simp only [szL, D.sz] at hz
  have w1 : WL H [D.int a1, D.int a2, D.str a3, D.sl a4] L133 := WL.part 1 4 h
  have e1 := c148 _ a1 a2 a3 a4 (Nat.lt_succ_self _) (by simp only [szL, D.sz]; omega) w1
  simp only [rn] at e1
  have w5 : WL H [D.int a5, D.int a6, D.str a7, D.sl a8] L133 := WL.part 5 4 h
  have e5 := c148 _ a5 a6 a7 a8 (Nat.lt_succ_self _) (by simp only [szL, D.sz]; omega) w5
  simp only [rn] at e5
  have e9 := c149 (rs := a9) (by omega) cx9
  simp only [rn] at e9
  all_goals simp only [e1, e5, e9, Option.bind_some, nth, List.getD_cons_zero, List.getD_cons_succ, D.I, D.S, D.L, D.B]
theorem c86 {rs : Rows} (hz : rs.length + szR rs ≤ 1048576) (hW : WRs H rs L200) : rn ⟨86, 0, 0⟩ [.sl rs] = some (0, [.sl rs]) := by
  show run H Tryz.prog ⟨86, 0, 0⟩ _ = _
  rw [run_eq, g86_0_0_eq, g86_0_0]
  have hf := fill_loop (F := fun i y => rn ⟨86, 0, 1⟩ [.sl rs, .int (i : Int), .sl y]) (rows := rs) (w := 10) (z := [.str (⟨#[]⟩ : ByteArray), .int 0, .int 0, .str (⟨#[]⟩ : ByteArray), .sl [], .int 0, .int 0, .str (⟨#[]⟩ : ByteArray), .sl [], .sl []]) rfl (fun r hr => (WRs_mem hW hr).len) (fun i hi y hy hyw => ?_) (fun y => ?_)
  · simp only [rn, Int.natCast_zero] at hf
    rw [decide_eq_true (by omega : (0 : Int) ≤ (rs.length : Int)), decide_eq_true (by unfold M63; omega : (rs.length : Int) ≤ (M63 : Int)), decide_eq_true rfl]
    simp only [Bool.and_self, cond_true, Int.toNat_natCast]
    rw [hf]
    rfl
  · have hw := WRs_mem hW (List.getElem_mem hi)
    have hzi := szR_mem (List.getElem_mem hi)
    obtain ⟨a0, a1, a2, a3, a4, a5, a6, a7, a8, a9, hr, b0, b3, b4, c4, b7, b8, c8, b9, c9⟩ := wl200 hw
    rw [hr] at hw hzi
    have hc := c146 (by omega) hw
    simp only [rn] at hc
    simp only [rn]
    rw [run_eq, g86_0_1_eq, g86_0_1]
    have hlen : rs.length ≤ maxLen := by unfold maxLen; omega
    have hi2 : i < y.length := by omega
    have hov : ∀ l : List D, l.length = 10 → over 0 l (rowAt y i) = l := fun l hl => over0_eq (by rw [rowAt_eq hi2, hyw _ (List.getElem_mem hi2), hl])
    simp only [Int.toNat_natCast, rowAt_eq hi, hr, inbN, hi, hi2, decide_true, cond_true, Int.ofNat_lt, nth, List.getD_cons_zero, List.getD_cons_succ, D.I, D.S, D.L, D.B, wrap_succ hi hlen]
    simp only [hc, Option.bind_some, nth, List.getD_cons_zero, List.getD_cons_succ, D.I, D.S, D.L, D.B]
    rw [hov _ rfl]
  · simp only [rn]
    rw [run_eq, g86_0_1_eq, g86_0_1]
    simp
theorem c147 {a0 : ByteArray} {a1 : Int} (hz : szL [D.str a0, D.int a1] ≤ 1048576) (h : WL H [D.str a0, D.int a1] L202) : rn ⟨147, 0, 0⟩ [D.str a0, D.int a1] = some (0, [D.str a0, D.int a1]) := by
  obtain ⟨x0, x1, hh, bx0⟩ := wl202 h
  simp only [List.cons.injEq, D.int.injEq, D.bool.injEq, D.str.injEq, D.sl.injEq, and_true] at hh
  obtain ⟨rfl, rfl⟩ := hh
  show run H Tryz.prog ⟨147, 0, 0⟩ _ = _
  rw [run_eq, g147_0_0_eq, g147_0_0]
  all_goals simp only [Option.bind_some, nth, List.getD_cons_zero, List.getD_cons_succ, D.I, D.S, D.L, D.B]
theorem c87 {rs : Rows} (hz : rs.length + szR rs ≤ 1048576) (hW : WRs H rs L202) : rn ⟨87, 0, 0⟩ [.sl rs] = some (0, [.sl rs]) := by
  show run H Tryz.prog ⟨87, 0, 0⟩ _ = _
  rw [run_eq, g87_0_0_eq, g87_0_0]
  have hf := fill_loop (F := fun i y => rn ⟨87, 0, 1⟩ [.sl rs, .int (i : Int), .sl y]) (rows := rs) (w := 2) (z := [.str (⟨#[]⟩ : ByteArray), .int 0]) rfl (fun r hr => (WRs_mem hW hr).len) (fun i hi y hy hyw => ?_) (fun y => ?_)
  · simp only [rn, Int.natCast_zero] at hf
    rw [decide_eq_true (by omega : (0 : Int) ≤ (rs.length : Int)), decide_eq_true (by unfold M63; omega : (rs.length : Int) ≤ (M63 : Int)), decide_eq_true rfl]
    simp only [Bool.and_self, cond_true, Int.toNat_natCast]
    rw [hf]
    rfl
  · have hw := WRs_mem hW (List.getElem_mem hi)
    have hzi := szR_mem (List.getElem_mem hi)
    obtain ⟨a0, a1, hr, b0⟩ := wl202 hw
    rw [hr] at hw hzi
    have hc := c147 (by omega) hw
    simp only [rn] at hc
    simp only [rn]
    rw [run_eq, g87_0_1_eq, g87_0_1]
    have hlen : rs.length ≤ maxLen := by unfold maxLen; omega
    have hi2 : i < y.length := by omega
    have hov : ∀ l : List D, l.length = 2 → over 0 l (rowAt y i) = l := fun l hl => over0_eq (by rw [rowAt_eq hi2, hyw _ (List.getElem_mem hi2), hl])
    simp only [Int.toNat_natCast, rowAt_eq hi, hr, inbN, hi, hi2, decide_true, cond_true, Int.ofNat_lt, nth, List.getD_cons_zero, List.getD_cons_succ, D.I, D.S, D.L, D.B, wrap_succ hi hlen]
    simp only [hc, Option.bind_some, nth, List.getD_cons_zero, List.getD_cons_succ, D.I, D.S, D.L, D.B]
    rw [hov _ rfl]
  · simp only [rn]
    rw [run_eq, g87_0_1_eq, g87_0_1]
    simp
theorem c37 {a0 : Rows} {a1 : Rows} {a2 : Rows} {a3 : Rows} (hz : szL [D.sl a0, D.sl a1, D.sl a2, D.sl a3] ≤ 1048576) (h : WL H [D.sl a0, D.sl a1, D.sl a2, D.sl a3] L29) : rn ⟨37, 0, 0⟩ [D.sl a0, D.sl a1, D.sl a2, D.sl a3] = some (0, [D.sl a0, D.sl a1, D.sl a2, D.sl a3]) := by
  obtain ⟨x0, x1, x2, x3, hh, bx0, cx0, bx1, cx1, bx2, cx2, bx3, cx3⟩ := wl29 h
  simp only [List.cons.injEq, D.int.injEq, D.bool.injEq, D.str.injEq, D.sl.injEq, and_true] at hh
  obtain ⟨rfl, rfl, rfl, rfl⟩ := hh
  show run H Tryz.prog ⟨37, 0, 0⟩ _ = _
  rw [run_eq, g37_0_0_eq, g37_0_0]
  simp only [szL, D.sz] at hz
  have w0 : WL H [D.sl a0, D.sl a1] L25 := WL.part 0 2 h
  have e0 := c85 (by simp only [szL, D.sz]; omega) w0
  simp only [rn] at e0
  have e2 := c86 (rs := a2) (by omega) cx2
  simp only [rn] at e2
  have e3 := c87 (rs := a3) (by omega) cx3
  simp only [rn] at e3
  all_goals simp only [e0, e2, e3, Option.bind_some, nth, List.getD_cons_zero, List.getD_cons_succ, D.I, D.S, D.L, D.B]
theorem c223 {rs : Rows} (hz : rs.length + szR rs ≤ 1048576) (hW : WRs H rs L3) : rn ⟨223, 0, 0⟩ [.sl rs] = some (0, [.sl rs]) := by
  show run H Tryz.prog ⟨223, 0, 0⟩ _ = _
  rw [run_eq, g223_0_0_eq, g223_0_0]
  have hf := fill_loop (F := fun i y => rn ⟨223, 0, 1⟩ [.sl rs, .int (i : Int), .sl y]) (rows := rs) (w := 1) (z := [.int 0]) rfl (fun r hr => (WRs_mem hW hr).len) (fun i hi y hy hyw => ?_) (fun y => ?_)
  · simp only [rn, Int.natCast_zero] at hf
    rw [decide_eq_true (by omega : (0 : Int) ≤ (rs.length : Int)), decide_eq_true (by unfold M63; omega : (rs.length : Int) ≤ (M63 : Int)), decide_eq_true rfl]
    simp only [Bool.and_self, cond_true, Int.toNat_natCast]
    rw [hf]
    rfl
  · have hw := WRs_mem hW (List.getElem_mem hi)
    have hzi := szR_mem (List.getElem_mem hi)
    obtain ⟨a0, hr⟩ := wl3 hw
    rw [hr] at hw hzi
    simp only [rn]
    rw [run_eq, g223_0_1_eq, g223_0_1]
    have hlen : rs.length ≤ maxLen := by unfold maxLen; omega
    have hi2 : i < y.length := by omega
    have hov : ∀ l : List D, l.length = 1 → over 0 l (rowAt y i) = l := fun l hl => over0_eq (by rw [rowAt_eq hi2, hyw _ (List.getElem_mem hi2), hl])
    simp only [Int.toNat_natCast, rowAt_eq hi, hr, inbN, hi, hi2, decide_true, cond_true, Int.ofNat_lt, nth, List.getD_cons_zero, List.getD_cons_succ, D.I, D.S, D.L, D.B, wrap_succ hi hlen]
    rw [hov _ rfl]
  · simp only [rn]
    rw [run_eq, g223_0_1_eq, g223_0_1]
    simp
theorem c190 {a0 : Int} {a1 : Rows} {a2 : Int} {a3 : Rows} (hz : szL [D.int a0, D.sl a1, D.int a2, D.sl a3] ≤ 1048576) (h : WL H [D.int a0, D.sl a1, D.int a2, D.sl a3] L247) : rn ⟨190, 0, 0⟩ [D.int a0, D.sl a1, D.int a2, D.sl a3] = some (0, [D.int a0, D.int a2, D.sl a1, D.sl a3]) := by
  obtain ⟨x0, x1, x2, x3, hh, bx1, cx1, bx3, cx3⟩ := wl247 h
  simp only [List.cons.injEq, D.int.injEq, D.bool.injEq, D.str.injEq, D.sl.injEq, and_true] at hh
  obtain ⟨rfl, rfl, rfl, rfl⟩ := hh
  show run H Tryz.prog ⟨190, 0, 0⟩ _ = _
  rw [run_eq, g190_0_0_eq, g190_0_0]
  simp only [szL, D.sz] at hz
  have e1 := c223 (rs := a1) (by omega) cx1
  simp only [rn] at e1
  have e3 := c224 (rs := a3) (by omega) cx3
  simp only [rn] at e3
  all_goals simp only [e1, e3, Option.bind_some, nth, List.getD_cons_zero, List.getD_cons_succ, D.I, D.S, D.L, D.B]
theorem c150 {rs : Rows} (hz : rs.length + szR rs ≤ 1048576) (hW : WRs H rs L247) : rn ⟨150, 0, 0⟩ [.sl rs] = some (0, [.sl rs]) := by
  show run H Tryz.prog ⟨150, 0, 0⟩ _ = _
  rw [run_eq, g150_0_0_eq, g150_0_0]
  have hf := fill_loop (F := fun i y => rn ⟨150, 0, 1⟩ [.sl rs, .int (i : Int), .sl y]) (rows := rs) (w := 4) (z := [.int 0, .sl [], .int 0, .sl []]) rfl (fun r hr => (WRs_mem hW hr).len) (fun i hi y hy hyw => ?_) (fun y => ?_)
  · simp only [rn, Int.natCast_zero] at hf
    rw [decide_eq_true (by omega : (0 : Int) ≤ (rs.length : Int)), decide_eq_true (by unfold M63; omega : (rs.length : Int) ≤ (M63 : Int)), decide_eq_true rfl]
    simp only [Bool.and_self, cond_true, Int.toNat_natCast]
    rw [hf]
    rfl
  · have hw := WRs_mem hW (List.getElem_mem hi)
    have hzi := szR_mem (List.getElem_mem hi)
    obtain ⟨a0, a1, a2, a3, hr, b1, c1, b3, c3⟩ := wl247 hw
    rw [hr] at hw hzi
    have hc := c190 (by omega) hw
    simp only [rn] at hc
    simp only [rn]
    rw [run_eq, g150_0_1_eq, g150_0_1]
    have hlen : rs.length ≤ maxLen := by unfold maxLen; omega
    have hi2 : i < y.length := by omega
    have hov : ∀ l : List D, l.length = 4 → over 0 l (rowAt y i) = l := fun l hl => over0_eq (by rw [rowAt_eq hi2, hyw _ (List.getElem_mem hi2), hl])
    simp only [Int.toNat_natCast, rowAt_eq hi, hr, inbN, hi, hi2, decide_true, cond_true, Int.ofNat_lt, nth, List.getD_cons_zero, List.getD_cons_succ, D.I, D.S, D.L, D.B, wrap_succ hi hlen]
    simp only [hc, Option.bind_some, nth, List.getD_cons_zero, List.getD_cons_succ, D.I, D.S, D.L, D.B]
    rw [hov _ rfl]
  · simp only [rn]
    rw [run_eq, g150_0_1_eq, g150_0_1]
    simp
theorem c89 {a0 : Rows} (hz : szL [D.sl a0] ≤ 1048576) (h : WL H [D.sl a0] L140) : rn ⟨89, 0, 0⟩ [D.sl a0] = some (0, [D.sl a0]) := by
  obtain ⟨x0, hh, bx0, cx0⟩ := wl140 h
  simp only [List.cons.injEq, D.int.injEq, D.bool.injEq, D.str.injEq, D.sl.injEq, and_true] at hh
  obtain rfl := hh
  show run H Tryz.prog ⟨89, 0, 0⟩ _ = _
  rw [run_eq, g89_0_0_eq, g89_0_0]
  simp only [szL, D.sz] at hz
  have e0 := c150 (rs := a0) (by omega) cx0
  simp only [rn] at e0
  all_goals simp only [e0, Option.bind_some, nth, List.getD_cons_zero, List.getD_cons_succ, D.I, D.S, D.L, D.B]
theorem c39 {rs : Rows} (hz : rs.length + szR rs ≤ 1048576) (hW : WRs H rs L140) : rn ⟨39, 0, 0⟩ [.sl rs] = some (0, [.sl rs]) := by
  show run H Tryz.prog ⟨39, 0, 0⟩ _ = _
  rw [run_eq, g39_0_0_eq, g39_0_0]
  have hf := fill_loop (F := fun i y => rn ⟨39, 0, 1⟩ [.sl rs, .int (i : Int), .sl y]) (rows := rs) (w := 1) (z := [.sl []]) rfl (fun r hr => (WRs_mem hW hr).len) (fun i hi y hy hyw => ?_) (fun y => ?_)
  · simp only [rn, Int.natCast_zero] at hf
    rw [decide_eq_true (by omega : (0 : Int) ≤ (rs.length : Int)), decide_eq_true (by unfold M63; omega : (rs.length : Int) ≤ (M63 : Int)), decide_eq_true rfl]
    simp only [Bool.and_self, cond_true, Int.toNat_natCast]
    rw [hf]
    rfl
  · have hw := WRs_mem hW (List.getElem_mem hi)
    have hzi := szR_mem (List.getElem_mem hi)
    obtain ⟨a0, hr, b0, c0⟩ := wl140 hw
    rw [hr] at hw hzi
    have hc := c89 (by omega) hw
    simp only [rn] at hc
    simp only [rn]
    rw [run_eq, g39_0_1_eq, g39_0_1]
    have hlen : rs.length ≤ maxLen := by unfold maxLen; omega
    have hi2 : i < y.length := by omega
    have hov : ∀ l : List D, l.length = 1 → over 0 l (rowAt y i) = l := fun l hl => over0_eq (by rw [rowAt_eq hi2, hyw _ (List.getElem_mem hi2), hl])
    simp only [Int.toNat_natCast, rowAt_eq hi, hr, inbN, hi, hi2, decide_true, cond_true, Int.ofNat_lt, nth, List.getD_cons_zero, List.getD_cons_succ, D.I, D.S, D.L, D.B, wrap_succ hi hlen]
    simp only [hc, Option.bind_some, nth, List.getD_cons_zero, List.getD_cons_succ, D.I, D.S, D.L, D.B]
    rw [hov _ rfl]
  · simp only [rn]
    rw [run_eq, g39_0_1_eq, g39_0_1]
    simp
theorem c8 {a0 : ByteArray} {a1 : Rows} {a2 : Rows} {a3 : Rows} {a4 : Rows} {a5 : Rows} {a6 : Rows} (hz : szL [D.str a0, D.sl a1, D.sl a2, D.sl a3, D.sl a4, D.sl a5, D.sl a6] ≤ 1048576) (h : WL H [D.str a0, D.sl a1, D.sl a2, D.sl a3, D.sl a4, D.sl a5, D.sl a6] L33) : rn ⟨8, 0, 0⟩ [D.str a0, D.sl a1, D.sl a2, D.sl a3, D.sl a4, D.sl a5, D.sl a6] = some (0, [D.str a0, D.sl a1, D.sl a2, D.sl a3, D.sl a4, D.sl a5, D.sl a6]) := by
  obtain ⟨x0, x1, x2, x3, x4, x5, x6, hh, bx0, bx1, cx1, bx2, cx2, bx3, cx3, bx4, cx4, bx5, cx5, bx6, cx6⟩ := wl33 h
  simp only [List.cons.injEq, D.int.injEq, D.bool.injEq, D.str.injEq, D.sl.injEq, and_true] at hh
  obtain ⟨rfl, rfl, rfl, rfl, rfl, rfl, rfl⟩ := hh
  show run H Tryz.prog ⟨8, 0, 0⟩ _ = _
  rw [run_eq, g8_0_0_eq, g8_0_0]
  simp only [szL, D.sz] at hz
  have w1 : WL H [D.sl a1, D.sl a2, D.sl a3, D.sl a4] L29 := WL.part 1 4 h
  have e1 := c37 (by simp only [szL, D.sz]; omega) w1
  simp only [rn] at e1
  have e5 := c38 (rs := a5) (by omega) cx5
  simp only [rn] at e5
  have e6 := c39 (rs := a6) (by omega) cx6
  simp only [rn] at e6
  all_goals simp only [e1, e5, e6, Option.bind_some, nth, List.getD_cons_zero, List.getD_cons_succ, D.I, D.S, D.L, D.B]
end Go.Q.S
