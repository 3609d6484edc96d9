/- The functions of this seat, as that machine runs them. -/
import Derived.Test.YtmahppdampmpfaaQC
import Derived.Test.YtmahppdampmpfaaaX
set_option linter.unusedVariables false
set_option linter.unusedSimpArgs false
namespace Go.Q.S
open Go Go.Q Go.Proofs
noncomputable abbrev rn : Key → List D → R := run H Try.prog
def L31 : List CT := [.int .i64, .int .i64, .str, .sl 31]
theorem ty31 : H.ty 31 = some ⟨true, L31, [(0, 3), (1, 3), (2, 9), (3, 29)]⟩ := by kernel_rfl
theorem wl31 {ds : List D} (h : WL H ds L31) : ∃ a0 a1 a2 a3, ds = [D.int a0, D.int a1, D.str a2, D.sl a3] ∧ a2.size ≤ maxLen ∧ a3.length ≤ maxLen ∧ WRs H a3 L31 := by
  unfold L31 at h
  obtain ⟨a0, _, rfl, _, h⟩ := wl_int h
  obtain ⟨a1, _, rfl, _, h⟩ := wl_int h
  obtain ⟨a2, _, rfl, b2, h⟩ := wl_str h
  obtain ⟨a3, _, rfl, b3, c3, h⟩ := wl_sl ty31 h
  obtain rfl := wl_nil h
  exact ⟨a0, a1, a2, a3, rfl, b2, b3, c3⟩
def L109 : List CT := [.str, .int .i64, .int .i64, .str, .sl 31]
theorem ty109 : H.ty 109 = some ⟨true, L109, [(0, 9), (1, 31)]⟩ := by kernel_rfl
theorem wl109 {ds : List D} (h : WL H ds L109) : ∃ a0 a1 a2 a3 a4, ds = [D.str a0, D.int a1, D.int a2, D.str a3, D.sl a4] ∧ a0.size ≤ maxLen ∧ a3.size ≤ maxLen ∧ a4.length ≤ maxLen ∧ WRs H a4 L31 := by
  unfold L109 at h
  obtain ⟨a0, _, rfl, b0, h⟩ := wl_str h
  obtain ⟨a1, _, rfl, _, h⟩ := wl_int h
  obtain ⟨a2, _, rfl, _, h⟩ := wl_int h
  obtain ⟨a3, _, rfl, b3, h⟩ := wl_str h
  obtain ⟨a4, _, rfl, b4, c4, h⟩ := wl_sl ty31 h
  obtain rfl := wl_nil h
  exact ⟨a0, a1, a2, a3, a4, rfl, b0, b3, b4, c4⟩
theorem q49 {rs rs' : Rows} (hl : rs.length ≤ maxLen) (hl' : rs'.length ≤ maxLen) (hW : WRs H rs L31) (hW' : WRs H rs' L31) (hel : ∀ r r', r ∈ rs → r' ∈ rs' → rn ⟨18, 0, 0⟩ (r ++ r') = some (0, [.bool (eqb r r')])) : rn ⟨49, 0, 0⟩ [.sl rs, .sl rs'] = some (0, [.bool (eqb rs rs')]) := by
  show run H Try.prog ⟨49, 0, 0⟩ _ = _
  rw [run_eq, g49_0_0_eq, g49_0_0]
  by_cases hll : rs'.length = rs.length
  · have hf := eq_loop (F := fun i => rn ⟨49, 0, 1⟩ [.sl rs, .sl rs', .int (i : Int)]) (A := some (0, [])) (B := some (1, [])) hll (fun i hi => ?_) ?_
    · simp only [rn, Int.natCast_zero] at hf
      rw [decide_eq_true (by omega : (rs.length : Int) = (rs'.length : Int))]
      simp only [Bool.not_true, cond_false]
      rw [hf]
      cases eqb rs rs' <;> rfl
    · have hi2 : i < rs'.length := by omega
      have hw := WRs_mem hW (List.getElem_mem hi)
      have hw' := WRs_mem hW' (List.getElem_mem hi2)
      obtain ⟨a0, a1, a2, a3, hr, b2, b3, c3⟩ := wl31 hw
      obtain ⟨y0, y1, y2, y3, hr', by2, by3, cy3⟩ := wl31 hw'
      have hc := hel _ _ (List.getElem_mem hi) (List.getElem_mem hi2)
      rw [hr, hr'] at hc
      simp only [List.cons_append, List.nil_append] at hc
      simp only [rn] at hc
      simp only [rn]
      rw [run_eq, g49_0_1_eq, g49_0_1]
      simp only [Int.toNat_natCast, rowAt_eq hi, rowAt_eq hi2, hr, hr', inbN, hi, hi2, decide_true, cond_true, Int.ofNat_lt, nth, List.getD_cons_zero, List.getD_cons_succ, D.I, D.S, D.L, D.B, wrap_succ hi hl]
      simp only [hc, Option.bind_some, nth, List.getD_cons_zero, List.getD_cons_succ, D.I, D.S, D.L, D.B]
      cases (eqb [D.int a0, D.int a1, D.str a2, D.sl a3] [D.int y0, D.int y1, D.str y2, D.sl y3]) <;> rfl
    · simp only [rn]
      rw [run_eq, g49_0_1_eq, g49_0_1]
      simp
  · rw [decide_eq_false (by omega : ¬ (rs.length : Int) = (rs'.length : Int)), eqb_len (fun h => hll h.symm)]
    rfl
theorem q18 : ∀ (N : Nat) (ds es : List D), SizeOf.sizeOf ds < N → WL H ds L31 → WL H es L31 → rn ⟨18, 0, 0⟩ (ds ++ es) = some (0, [.bool (eqb ds es)])
  | 0, ds, es, hN, _, _ => absurd hN (Nat.not_lt_zero _)
  | N + 1, ds, es, hN, h, h' => by
    have h0 := h
    have h0' := h'
    obtain ⟨a0, a1, a2, a3, rfl, b2, b3, c3⟩ := wl31 h
    obtain ⟨y0, y1, y2, y3, rfl, by2, by3, cy3⟩ := wl31 h'
    show run H Try.prog ⟨18, 0, 0⟩ [D.int a0, D.int a1, D.str a2, D.sl a3, D.int y0, D.int y1, D.str y2, D.sl y3] = _
    rw [run_eq, g18_0_0_eq, g18_0_0]
    have e3 := q49 b3 by3 c3 cy3 (fun r r' hr hr' => q18 N r r' (by have h1 := size_row hr; simp only [List.cons.sizeOf_spec, D.sl.sizeOf_spec] at hN; omega) (WRs_mem c3 hr) (WRs_mem cy3 hr'))
    simp only [rn] at e3
    simp only [e3, Option.bind_some, nth, List.getD_cons_zero, List.getD_cons_succ, D.I, D.S, D.L, D.B]
    simp only [eq_step, eq_end, eqb_cons, eqb_nil, eqb_int, eqb_str, eqb_bool, eqb_sl, Bool.and_true, Bool.and_assoc]
theorem q79 {ds es : List D} (h : WL H ds L109) (h' : WL H es L109) : rn ⟨79, 0, 0⟩ (ds ++ es) = some (0, [.bool (eqb ds es)]) := by
  have h0 := h
  have h0' := h'
  obtain ⟨a0, a1, a2, a3, a4, rfl, b0, b3, b4, c4⟩ := wl109 h
  obtain ⟨y0, y1, y2, y3, y4, rfl, by0, by3, by4, cy4⟩ := wl109 h'
  show run H Try.prog ⟨79, 0, 0⟩ [D.str a0, D.int a1, D.int a2, D.str a3, D.sl a4, D.str y0, D.int y1, D.int y2, D.str y3, D.sl y4] = _
  rw [run_eq, g79_0_0_eq, g79_0_0]
  have w1 : WL H [D.int a1, D.int a2, D.str a3, D.sl a4] L31 := WL.part 1 4 h0
  have w1p : WL H [D.int y1, D.int y2, D.str y3, D.sl y4] L31 := WL.part 1 4 h0'
  have e1 := q18 _ _ _ (Nat.lt_succ_self _) w1 w1p
  simp only [List.cons_append, List.nil_append] at e1
  simp only [rn] at e1
  simp only [e1, Option.bind_some, nth, List.getD_cons_zero, List.getD_cons_succ, D.I, D.S, D.L, D.B]
  simp only [eq_step, eq_end, eqb_cons, eqb_nil, eqb_int, eqb_str, eqb_bool, eqb_sl, Bool.and_true, Bool.and_assoc]
theorem q36 {rs rs' : Rows} (hl : rs.length ≤ maxLen) (hl' : rs'.length ≤ maxLen) (hW : WRs H rs L109) (hW' : WRs H rs' L109) : rn ⟨36, 0, 0⟩ [.sl rs, .sl rs'] = some (0, [.bool (eqb rs rs')]) := by
  show run H Try.prog ⟨36, 0, 0⟩ _ = _
  rw [run_eq, g36_0_0_eq, g36_0_0]
  by_cases hll : rs'.length = rs.length
  · have hf := eq_loop (F := fun i => rn ⟨36, 0, 1⟩ [.sl rs, .sl rs', .int (i : Int)]) (A := some (0, [])) (B := some (1, [])) hll (fun i hi => ?_) ?_
    · simp only [rn, Int.natCast_zero] at hf
      rw [decide_eq_true (by omega : (rs.length : Int) = (rs'.length : Int))]
      simp only [Bool.not_true, cond_false]
      rw [hf]
      cases eqb rs rs' <;> rfl
    · have hi2 : i < rs'.length := by omega
      have hw := WRs_mem hW (List.getElem_mem hi)
      have hw' := WRs_mem hW' (List.getElem_mem hi2)
      obtain ⟨a0, a1, a2, a3, a4, hr, b0, b3, b4, c4⟩ := wl109 hw
      obtain ⟨y0, y1, y2, y3, y4, hr', by0, by3, by4, cy4⟩ := wl109 hw'
      have hc := q79 hw hw'
      rw [hr, hr'] at hc
      simp only [List.cons_append, List.nil_append] at hc
      simp only [rn] at hc
      simp only [rn]
      rw [run_eq, g36_0_1_eq, g36_0_1]
      simp only [Int.toNat_natCast, rowAt_eq hi, rowAt_eq hi2, hr, hr', inbN, hi, hi2, decide_true, cond_true, Int.ofNat_lt, nth, List.getD_cons_zero, List.getD_cons_succ, D.I, D.S, D.L, D.B, wrap_succ hi hl]
      simp only [hc, Option.bind_some, nth, List.getD_cons_zero, List.getD_cons_succ, D.I, D.S, D.L, D.B]
      cases (eqb [D.str a0, D.int a1, D.int a2, D.str a3, D.sl a4] [D.str y0, D.int y1, D.int y2, D.str y3, D.sl y4]) <;> rfl
    · simp only [rn]
      rw [run_eq, g36_0_1_eq, g36_0_1]
      simp
  · rw [decide_eq_false (by omega : ¬ (rs.length : Int) = (rs'.length : Int)), eqb_len (fun h => hll h.symm)]
    rfl
def L9 : List CT := [.str]
theorem ty9 : H.ty 9 = some ⟨false, L9, []⟩ := by kernel_rfl
theorem wl9 {ds : List D} (h : WL H ds L9) : ∃ a0, ds = [D.str a0] ∧ a0.size ≤ maxLen := by
  unfold L9 at h
  obtain ⟨a0, _, rfl, b0, h⟩ := wl_str h
  obtain rfl := wl_nil h
  exact ⟨a0, rfl, b0⟩
theorem q35 {rs rs' : Rows} (hl : rs.length ≤ maxLen) (hl' : rs'.length ≤ maxLen) (hW : WRs H rs L9) (hW' : WRs H rs' L9) : rn ⟨35, 0, 0⟩ [.sl rs, .sl rs'] = some (0, [.bool (eqb rs rs')]) := by
  show run H Try.prog ⟨35, 0, 0⟩ _ = _
  rw [run_eq, g35_0_0_eq, g35_0_0]
  by_cases hll : rs'.length = rs.length
  · have hf := eq_loop (F := fun i => rn ⟨35, 0, 1⟩ [.sl rs, .sl rs', .int (i : Int)]) (A := some (0, [])) (B := some (1, [])) hll (fun i hi => ?_) ?_
    · simp only [rn, Int.natCast_zero] at hf
      rw [decide_eq_true (by omega : (rs.length : Int) = (rs'.length : Int))]
      simp only [Bool.not_true, cond_false]
      rw [hf]
      cases eqb rs rs' <;> rfl
    · have hi2 : i < rs'.length := by omega
      have hw := WRs_mem hW (List.getElem_mem hi)
      have hw' := WRs_mem hW' (List.getElem_mem hi2)
      obtain ⟨a0, hr, b0⟩ := wl9 hw
      obtain ⟨y0, hr', by0⟩ := wl9 hw'
      simp only [rn]
      rw [run_eq, g35_0_1_eq, g35_0_1]
      simp only [Int.toNat_natCast, rowAt_eq hi, rowAt_eq hi2, hr, hr', inbN, hi, hi2, decide_true, cond_true, Int.ofNat_lt, nth, List.getD_cons_zero, List.getD_cons_succ, D.I, D.S, D.L, D.B, wrap_succ hi hl]
      simp only [eqb_cons, eqb_nil, eqb_int, eqb_str, eqb_bool, eqb_sl, Bool.and_true]
      cases (decide (a0 = y0)) <;> rfl
    · simp only [rn]
      rw [run_eq, g35_0_1_eq, g35_0_1]
      simp
  · rw [decide_eq_false (by omega : ¬ (rs.length : Int) = (rs'.length : Int)), eqb_len (fun h => hll h.symm)]
    rfl
def L26 : List CT := [.int .i64, .int .i64, .str, .sl 26]
theorem ty26 : H.ty 26 = some ⟨true, L26, [(0, 3), (1, 3), (2, 9), (3, 24)]⟩ := by kernel_rfl
theorem wl26 {ds : List D} (h : WL H ds L26) : ∃ a0 a1 a2 a3, ds = [D.int a0, D.int a1, D.str a2, D.sl a3] ∧ a2.size ≤ maxLen ∧ a3.length ≤ maxLen ∧ WRs H a3 L26 := by
  unfold L26 at h
  obtain ⟨a0, _, rfl, _, h⟩ := wl_int h
  obtain ⟨a1, _, rfl, _, h⟩ := wl_int h
  obtain ⟨a2, _, rfl, b2, h⟩ := wl_str h
  obtain ⟨a3, _, rfl, b3, c3, h⟩ := wl_sl ty26 h
  obtain rfl := wl_nil h
  exact ⟨a0, a1, a2, a3, rfl, b2, b3, c3⟩
def L103 : List CT := [.str, .int .i64, .int .i64, .str, .sl 26]
theorem ty103 : H.ty 103 = some ⟨true, L103, [(0, 9), (1, 26)]⟩ := by kernel_rfl
theorem wl103 {ds : List D} (h : WL H ds L103) : ∃ a0 a1 a2 a3 a4, ds = [D.str a0, D.int a1, D.int a2, D.str a3, D.sl a4] ∧ a0.size ≤ maxLen ∧ a3.size ≤ maxLen ∧ a4.length ≤ maxLen ∧ WRs H a4 L26 := by
  unfold L103 at h
  obtain ⟨a0, _, rfl, b0, h⟩ := wl_str h
  obtain ⟨a1, _, rfl, _, h⟩ := wl_int h
  obtain ⟨a2, _, rfl, _, h⟩ := wl_int h
  obtain ⟨a3, _, rfl, b3, h⟩ := wl_str h
  obtain ⟨a4, _, rfl, b4, c4, h⟩ := wl_sl ty26 h
  obtain rfl := wl_nil h
  exact ⟨a0, a1, a2, a3, a4, rfl, b0, b3, b4, c4⟩
theorem s45 {rs : Rows} (hl : rs.length ≤ maxLen) (hW : WRs H rs L26) (hel : ∀ r ∈ rs, ∀ b, Bd b → rn ⟨14, 0, 0⟩ (r ++ [.int b]) = some (0, [.int (sub b (szL r))])) {b : Int} (hb : Bd b) : rn ⟨45, 0, 0⟩ [.sl rs, .int b] = some (0, [.int (sub b (D.sz (.sl rs)))]) := by
  show run H Try.prog ⟨45, 0, 0⟩ _ = _
  rw [run_eq, g45_0_0_eq, g45_0_0]
  simp only [D.sz]
  refine sz_pay hb hl (F := fun c => (run H Try.prog ⟨45, 0, 1⟩ [.sl rs, .int c, .int 0]).bind fun r1 => bif Nat.beq r1.1 0 then some (0, [.int ((nth r1.2 0).I)]) else bif Nat.beq r1.1 1 then some (0, [.int ((nth r1.2 0).I)]) else none) fun c hc h0 => ?_
  have := sz_loop (F := fun i b => rn ⟨45, 0, 1⟩ [.sl rs, .int b, .int (i : Int)]) (rows := rs) (fun i hi b hb h0 => ?_) (fun b hb => ?_) hc h0
  · simp only [Int.natCast_zero] at this
    show ((rn _ _).bind _ = _)
    rw [this]
    split
    · rfl
    · rename_i hh; rw [sub_neg _ (by omega)]; rfl
  · have hw := WRs_mem hW (List.getElem_mem hi)
    obtain ⟨a0, a1, a2, a3, hr, b2, b3, c3⟩ := wl26 hw
    rw [hr] at hw
    have hc := hel rs[i] (List.getElem_mem hi) b hb
    generalize hq : szL rs[i] = q at hc ⊢
    rw [hr] at hc
    simp only [List.cons_append, List.nil_append, rn] at hc
    simp only [rn]
    rw [run_eq, g45_0_1_eq, g45_0_1]
    simp only [Int.toNat_natCast, rowAt_eq hi, hr, inbN, hi, decide_true, cond_true, Int.ofNat_lt, nth, List.getD_cons_zero, List.getD_cons_succ, D.I, D.S, D.L, D.B, wrap_succ hi hl]
    rw [hc]
    simp only [Option.bind_some, nth, List.getD_cons_zero, List.getD_cons_succ, D.I, D.S, D.L, D.B]
    by_cases hq : 0 ≤ sub b q
    · rw [if_pos hq, decide_eq_false (by omega)]; rfl
    · rw [if_neg hq, decide_eq_true (by omega)]; rfl
  · simp only [rn]
    rw [run_eq, g45_0_1_eq, g45_0_1]
    simp
theorem s14 : ∀ (N : Nat) (ds : List D), SizeOf.sizeOf ds < N → WL H ds L26 → ∀ b, Bd b → rn ⟨14, 0, 0⟩ (ds ++ [.int b]) = some (0, [.int (sub b (szL ds))])
  | 0, ds, hN, _, _, _ => absurd hN (Nat.not_lt_zero _)
  | N + 1, ds, hN, h, b, hb => by
    have h0 := h
    obtain ⟨a0, a1, a2, a3, rfl, b2, b3, c3⟩ := wl26 h
    show run H Try.prog ⟨14, 0, 0⟩ [D.int a0, D.int a1, D.str a2, D.sl a3, .int b] = _
    rw [run_eq, g14_0_0_eq, g14_0_0]
    rcases sz_case (b := b) hb b2 with ⟨hh, he⟩ | he
    · simp only [decide_eq_true hh, cond_true, Bool.cond_self]
      exact sub_dead he hb (by simp only [szL, D.sz]; omega)
    simp only [he]
    have e3 := s45 (b := (sub b a2.size)) b3 c3 (fun r hr b hb => s14 N r (by have h1 := size_row hr; simp only [List.cons.sizeOf_spec, D.sl.sizeOf_spec] at hN; omega) (WRs_mem c3 hr) b hb) (Bd.sub hb _)
    simp only [rn] at e3
    simp only [e3, Option.bind_some, nth, List.getD_cons_zero, List.getD_cons_succ, D.I, D.S, D.L, D.B]
    rw [sz_end _ (Bd.sub (Bd.sub hb _) _)]
    rw [sz_step _ (Bd.sub hb _)]
    rw [sub_sub hb]
    exact sub_congr (by simp only [szL, D.sz] <;> omega)
theorem s67 {ds : List D} (h : WL H ds L103) {b : Int} (hb : Bd b) : rn ⟨67, 0, 0⟩ (ds ++ [.int b]) = some (0, [.int (sub b (szL ds))]) := by
  have h0 := h
  obtain ⟨a0, a1, a2, a3, a4, rfl, b0, b3, b4, c4⟩ := wl103 h
  show run H Try.prog ⟨67, 0, 0⟩ [D.str a0, D.int a1, D.int a2, D.str a3, D.sl a4, .int b] = _
  rw [run_eq, g67_0_0_eq, g67_0_0]
  rcases sz_case (b := b) hb b0 with ⟨hh, he⟩ | he
  · simp only [decide_eq_true hh, cond_true, Bool.cond_self]
    exact sub_dead he hb (by simp only [szL, D.sz]; omega)
  simp only [he]
  have w1 : WL H [D.int a1, D.int a2, D.str a3, D.sl a4] L26 := WL.part 1 4 h0
  have e1 := s14 _ _ (Nat.lt_succ_self _) w1 (sub b a0.size) (Bd.sub hb _)
  simp only [List.cons_append, List.nil_append] at e1
  simp only [rn] at e1
  simp only [e1, Option.bind_some, nth, List.getD_cons_zero, List.getD_cons_succ, D.I, D.S, D.L, D.B]
  rw [sz_end _ (Bd.sub (Bd.sub hb _) _)]
  rw [sz_step _ (Bd.sub hb _)]
  rw [sub_sub hb]
  exact sub_congr (by simp only [szL, D.sz] <;> omega)
theorem s30 {rs : Rows} (hl : rs.length ≤ maxLen) (hW : WRs H rs L103) {b : Int} (hb : Bd b) : rn ⟨30, 0, 0⟩ [.sl rs, .int b] = some (0, [.int (sub b (D.sz (.sl rs)))]) := by
  show run H Try.prog ⟨30, 0, 0⟩ _ = _
  rw [run_eq, g30_0_0_eq, g30_0_0]
  simp only [D.sz]
  refine sz_pay hb hl (F := fun c => (run H Try.prog ⟨30, 0, 1⟩ [.sl rs, .int c, .int 0]).bind fun r1 => bif Nat.beq r1.1 0 then some (0, [.int ((nth r1.2 0).I)]) else bif Nat.beq r1.1 1 then some (0, [.int ((nth r1.2 0).I)]) else none) fun c hc h0 => ?_
  have := sz_loop (F := fun i b => rn ⟨30, 0, 1⟩ [.sl rs, .int b, .int (i : Int)]) (rows := rs) (fun i hi b hb h0 => ?_) (fun b hb => ?_) hc h0
  · simp only [Int.natCast_zero] at this
    show ((rn _ _).bind _ = _)
    rw [this]
    split
    · rfl
    · rename_i hh; rw [sub_neg _ (by omega)]; rfl
  · have hw := WRs_mem hW (List.getElem_mem hi)
    obtain ⟨a0, a1, a2, a3, a4, hr, b0, b3, b4, c4⟩ := wl103 hw
    rw [hr] at hw
    have hc := s67 hw hb
    rw [← hr] at hc
    generalize hq : szL rs[i] = q at hc ⊢
    rw [hr] at hc
    simp only [List.cons_append, List.nil_append, rn] at hc
    simp only [rn]
    rw [run_eq, g30_0_1_eq, g30_0_1]
    simp only [Int.toNat_natCast, rowAt_eq hi, hr, inbN, hi, decide_true, cond_true, Int.ofNat_lt, nth, List.getD_cons_zero, List.getD_cons_succ, D.I, D.S, D.L, D.B, wrap_succ hi hl]
    rw [hc]
    simp only [Option.bind_some, nth, List.getD_cons_zero, List.getD_cons_succ, D.I, D.S, D.L, D.B]
    by_cases hq : 0 ≤ sub b q
    · rw [if_pos hq, decide_eq_false (by omega)]; rfl
    · rw [if_neg hq, decide_eq_true (by omega)]; rfl
  · simp only [rn]
    rw [run_eq, g30_0_1_eq, g30_0_1]
    simp
theorem s29 {rs : Rows} (hl : rs.length ≤ maxLen) (hW : WRs H rs L9) {b : Int} (hb : Bd b) : rn ⟨29, 0, 0⟩ [.sl rs, .int b] = some (0, [.int (sub b (D.sz (.sl rs)))]) := by
  show run H Try.prog ⟨29, 0, 0⟩ _ = _
  rw [run_eq, g29_0_0_eq, g29_0_0]
  simp only [D.sz]
  refine sz_pay hb hl (F := fun c => (run H Try.prog ⟨29, 0, 1⟩ [.sl rs, .int c, .int 0]).bind fun r1 => bif Nat.beq r1.1 0 then some (0, [.int ((nth r1.2 0).I)]) else bif Nat.beq r1.1 1 then some (0, [.int ((nth r1.2 0).I)]) else none) fun c hc h0 => ?_
  have := sz_loop (F := fun i b => rn ⟨29, 0, 1⟩ [.sl rs, .int b, .int (i : Int)]) (rows := rs) (fun i hi b hb h0 => ?_) (fun b hb => ?_) hc h0
  · simp only [Int.natCast_zero] at this
    show ((rn _ _).bind _ = _)
    rw [this]
    split
    · rfl
    · rename_i hh; rw [sub_neg _ (by omega)]; rfl
  · have hw := WRs_mem hW (List.getElem_mem hi)
    obtain ⟨a0, hr, b0⟩ := wl9 hw
    rw [hr] at hw
    have hz : szL [.str a0] = a0.size := by simp only [szL, D.sz]; rfl
    have hq : szL rs[i] = a0.size := by rw [hr]; simp only [szL, D.sz]; omega
    rw [hq]
    simp only [rn]
    rw [run_eq, g29_0_1_eq, g29_0_1]
    simp only [Int.toNat_natCast, rowAt_eq hi, hr, inbN, hi, decide_true, cond_true, Int.ofNat_lt, nth, List.getD_cons_zero, List.getD_cons_succ, D.I, D.S, D.L, D.B, wrap_succ hi hl]
    rcases sz_case hb b0 with ⟨hh, he⟩ | he
    · rw [decide_eq_true hh, if_neg (by rw [he]; decide)]; rfl
    · rw [he]
      by_cases hq : 0 ≤ sub b a0.size
      · rw [if_pos hq, decide_eq_false (by omega)]; rfl
      · rw [if_neg hq, decide_eq_true (by omega)]; rfl
  · simp only [rn]
    rw [run_eq, g29_0_1_eq, g29_0_1]
    simp
theorem c46 {rs : Rows} (hz : rs.length + szR rs ≤ 1048576) (hW : WRs H rs L26) {N : Nat} (hN : ∀ r ∈ rs, SizeOf.sizeOf r < N) (hel : ∀ (a0 : Int) (a1 : Int) (a2 : ByteArray) (a3 : Rows), SizeOf.sizeOf ([D.int a0, D.int a1, D.str a2, D.sl a3] : List D) < N → szL [D.int a0, D.int a1, D.str a2, D.sl a3] ≤ 1048576 → WL H [D.int a0, D.int a1, D.str a2, D.sl a3] L26 → rn ⟨16, 0, 0⟩ [D.int a0, D.int a1, D.str a2, D.sl a3] = some (0, [D.int a0, D.int a1, D.str a2, D.sl a3])) : rn ⟨46, 0, 0⟩ [.sl rs] = some (0, [.sl rs]) := by
  show run H Try.prog ⟨46, 0, 0⟩ _ = _
  rw [run_eq, g46_0_0_eq, g46_0_0]
  have hf := fill_loop (F := fun i y => rn ⟨46, 0, 1⟩ [.sl rs, .int (i : Int), .sl y]) (rows := rs) (w := 4) (z := [.int 0, .int 0, .str (⟨#[]⟩ : ByteArray), .sl []]) rfl (fun r hr => (WRs_mem hW hr).len) (fun i hi y hy hyw => ?_) (fun y => ?_)
  · simp only [rn, Int.natCast_zero] at hf
    rw [decide_eq_true (by omega : (0 : Int) ≤ (rs.length : Int)), decide_eq_true (by unfold M63; omega : (rs.length : Int) ≤ (M63 : Int)), decide_eq_true rfl]
    simp only [Bool.and_self, cond_true, Int.toNat_natCast]
    rw [hf]
    rfl
  · have hw := WRs_mem hW (List.getElem_mem hi)
    have hzi := szR_mem (List.getElem_mem hi)
    obtain ⟨a0, a1, a2, a3, hr, b2, b3, c3⟩ := wl26 hw
    have hNi := hN _ (List.getElem_mem hi)
    rw [hr] at hw hzi hNi
    have hc := hel a0 a1 a2 a3 hNi (by omega) hw
    simp only [rn] at hc
    simp only [rn]
    rw [run_eq, g46_0_1_eq, g46_0_1]
    have hlen : rs.length ≤ maxLen := by unfold maxLen; omega
    have hi2 : i < y.length := by omega
    have hov : ∀ l : List D, l.length = 4 → over 0 l (rowAt y i) = l := fun l hl => over0_eq (by rw [rowAt_eq hi2, hyw _ (List.getElem_mem hi2), hl])
    simp only [Int.toNat_natCast, rowAt_eq hi, hr, inbN, hi, hi2, decide_true, cond_true, Int.ofNat_lt, nth, List.getD_cons_zero, List.getD_cons_succ, D.I, D.S, D.L, D.B, wrap_succ hi hlen]
    simp only [hc, Option.bind_some, nth, List.getD_cons_zero, List.getD_cons_succ, D.I, D.S, D.L, D.B]
    rw [hov _ rfl]
  · simp only [rn]
    rw [run_eq, g46_0_1_eq, g46_0_1]
    simp
theorem c16 : ∀ (N : Nat) (a0 : Int) (a1 : Int) (a2 : ByteArray) (a3 : Rows), SizeOf.sizeOf ([D.int a0, D.int a1, D.str a2, D.sl a3] : List D) < N → szL [D.int a0, D.int a1, D.str a2, D.sl a3] ≤ 1048576 → WL H [D.int a0, D.int a1, D.str a2, D.sl a3] L26 → rn ⟨16, 0, 0⟩ [D.int a0, D.int a1, D.str a2, D.sl a3] = some (0, [D.int a0, D.int a1, D.str a2, D.sl a3])
  | 0, a0, a1, a2, a3, hN, _, _ => absurd hN (Nat.not_lt_zero _)
  | N + 1, a0, a1, a2, a3, hN, hz, h => by
    obtain ⟨x0, x1, x2, x3, hh, bx2, bx3, cx3⟩ := wl26 h
    simp only [List.cons.injEq, D.int.injEq, D.bool.injEq, D.str.injEq, D.sl.injEq, and_true] at hh
    obtain ⟨rfl, rfl, rfl, rfl⟩ := hh
    show run H Try.prog ⟨16, 0, 0⟩ _ = _
    rw [run_eq, g16_0_0_eq, g16_0_0]
    simp only [szL, D.sz] at hz
    have e3 : rn ⟨46, 0, 0⟩ [.sl a3] = some (0, [.sl a3]) := c46 (by omega) cx3 (N := N) (fun r hr => by have h1 := size_row hr; simp only [List.cons.sizeOf_spec, D.sl.sizeOf_spec] at hN; omega) (c16 N)
    simp only [rn] at e3
    all_goals simp only [e3, Option.bind_some, nth, List.getD_cons_zero, List.getD_cons_succ, D.I, D.S, D.L, D.B]
theorem c72 {a0 : ByteArray} {a1 : Int} {a2 : Int} {a3 : ByteArray} {a4 : Rows} (hz : szL [D.str a0, D.int a1, D.int a2, D.str a3, D.sl a4] ≤ 1048576) (h : WL H [D.str a0, D.int a1, D.int a2, D.str a3, D.sl a4] L103) : rn ⟨72, 0, 0⟩ [D.str a0, D.int a1, D.int a2, D.str a3, D.sl a4] = some (0, [D.str a0, D.int a1, D.int a2, D.str a3, D.sl a4]) := by
  obtain ⟨x0, x1, x2, x3, x4, hh, bx0, bx3, bx4, cx4⟩ := wl103 h
  simp only [List.cons.injEq, D.int.injEq, D.bool.injEq, D.str.injEq, D.sl.injEq, and_true] at hh
  obtain ⟨rfl, rfl, rfl, rfl, rfl⟩ := hh
  show run H Try.prog ⟨72, 0, 0⟩ _ = _
  rw [run_eq, g72_0_0_eq, g72_0_0]
  simp only [szL, D.sz] at hz
  have w1 : WL H [D.int a1, D.int a2, D.str a3, D.sl a4] L26 := WL.part 1 4 h
  have e1 := c16 _ a1 a2 a3 a4 (Nat.lt_succ_self _) (by simp only [szL, D.sz]; omega) w1
  simp only [rn] at e1
  all_goals simp only [e1, Option.bind_some, nth, List.getD_cons_zero, List.getD_cons_succ, D.I, D.S, D.L, D.B]
theorem c33 {rs : Rows} (hz : rs.length + szR rs ≤ 1048576) (hW : WRs H rs L103) : rn ⟨33, 0, 0⟩ [.sl rs] = some (0, [.sl rs]) := by
  show run H Try.prog ⟨33, 0, 0⟩ _ = _
  rw [run_eq, g33_0_0_eq, g33_0_0]
  have hf := fill_loop (F := fun i y => rn ⟨33, 0, 1⟩ [.sl rs, .int (i : Int), .sl y]) (rows := rs) (w := 5) (z := [.str (⟨#[]⟩ : ByteArray), .int 0, .int 0, .str (⟨#[]⟩ : ByteArray), .sl []]) rfl (fun r hr => (WRs_mem hW hr).len) (fun i hi y hy hyw => ?_) (fun y => ?_)
  · simp only [rn, Int.natCast_zero] at hf
    rw [decide_eq_true (by omega : (0 : Int) ≤ (rs.length : Int)), decide_eq_true (by unfold M63; omega : (rs.length : Int) ≤ (M63 : Int)), decide_eq_true rfl]
    simp only [Bool.and_self, cond_true, Int.toNat_natCast]
    rw [hf]
    rfl
  · have hw := WRs_mem hW (List.getElem_mem hi)
    have hzi := szR_mem (List.getElem_mem hi)
    obtain ⟨a0, a1, a2, a3, a4, hr, b0, b3, b4, c4⟩ := wl103 hw
    rw [hr] at hw hzi
    have hc := c72 (by omega) hw
    simp only [rn] at hc
    simp only [rn]
    rw [run_eq, g33_0_1_eq, g33_0_1]
    have hlen : rs.length ≤ maxLen := by unfold maxLen; omega
    have hi2 : i < y.length := by omega
    have hov : ∀ l : List D, l.length = 5 → over 0 l (rowAt y i) = l := fun l hl => over0_eq (by rw [rowAt_eq hi2, hyw _ (List.getElem_mem hi2), hl])
    simp only [Int.toNat_natCast, rowAt_eq hi, hr, inbN, hi, hi2, decide_true, cond_true, Int.ofNat_lt, nth, List.getD_cons_zero, List.getD_cons_succ, D.I, D.S, D.L, D.B, wrap_succ hi hlen]
    simp only [hc, Option.bind_some, nth, List.getD_cons_zero, List.getD_cons_succ, D.I, D.S, D.L, D.B]
    rw [hov _ rfl]
  · simp only [rn]
    rw [run_eq, g33_0_1_eq, g33_0_1]
    simp
theorem c32 {rs : Rows} (hz : rs.length + szR rs ≤ 1048576) (hW : WRs H rs L9) : rn ⟨32, 0, 0⟩ [.sl rs] = some (0, [.sl rs]) := by
  show run H Try.prog ⟨32, 0, 0⟩ _ = _
  rw [run_eq, g32_0_0_eq, g32_0_0]
  have hf := fill_loop (F := fun i y => rn ⟨32, 0, 1⟩ [.sl rs, .int (i : Int), .sl y]) (rows := rs) (w := 1) (z := [.str (⟨#[]⟩ : ByteArray)]) rfl (fun r hr => (WRs_mem hW hr).len) (fun i hi y hy hyw => ?_) (fun y => ?_)
  · simp only [rn, Int.natCast_zero] at hf
    rw [decide_eq_true (by omega : (0 : Int) ≤ (rs.length : Int)), decide_eq_true (by unfold M63; omega : (rs.length : Int) ≤ (M63 : Int)), decide_eq_true rfl]
    simp only [Bool.and_self, cond_true, Int.toNat_natCast]
    rw [hf]
    rfl
  · have hw := WRs_mem hW (List.getElem_mem hi)
    have hzi := szR_mem (List.getElem_mem hi)
    obtain ⟨a0, hr, b0⟩ := wl9 hw
    rw [hr] at hw hzi
    simp only [rn]
    rw [run_eq, g32_0_1_eq, g32_0_1]
    have hlen : rs.length ≤ maxLen := by unfold maxLen; omega
    have hi2 : i < y.length := by omega
    have hov : ∀ l : List D, l.length = 1 → over 0 l (rowAt y i) = l := fun l hl => over0_eq (by rw [rowAt_eq hi2, hyw _ (List.getElem_mem hi2), hl])
    simp only [Int.toNat_natCast, rowAt_eq hi, hr, inbN, hi, hi2, decide_true, cond_true, Int.ofNat_lt, nth, List.getD_cons_zero, List.getD_cons_succ, D.I, D.S, D.L, D.B, wrap_succ hi hlen]
    rw [hov _ rfl]
  · simp only [rn]
    rw [run_eq, g32_0_1_eq, g32_0_1]
    simp
end Go.Q.S
