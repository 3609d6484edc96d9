/- The functions of this seat, as that machine runs them. -/
import Derived.Test.YtboolhhmagjadaabC
import Derived.Test.YtboolhhmagjadaaM9
set_option linter.unusedVariables false
set_option linter.unusedSimpArgs false
namespace Go.Q.S
open Go Go.Q Go.Proofs
theorem r166 : ∀ t : Tm, t.nodes ≤ 1048576 → rn ⟨166, 0, 0⟩ [.int t.k, .int t.n, .str t.s, .sl (t.as.map Tm.row)] = some (0, [.sl (t.names.map sRow)]) := Tm.ind fun t ih h => by
  have hnd := Tm.nodes_eq t
  have hsm := names_sum t
  have hlt := len_sum (xs := t.as)
  show rn _ _ = _
  rw [e166_0_0]
  have hf := fun a0 : Rows => fun ha0 : a0.length ≤ 1 => cat_loop (F := fun i acc => rn ⟨166, 0, 1⟩ [.sl (t.as.map Tm.row), .int (t.as.map Tm.row).length, .int (i : Int), .sl acc]) (xs := t.as) (fun a => a.names.map sRow) a0 (K := fun acc => some (0, [.sl acc])) (fun i hi acc ha => by
    have hc := ih _ (List.getElem_mem hi) (by have := mem_sum (f := Tm.nodes) (List.getElem_mem hi); omega)
    skip
    rw [e166_0_1]
    simp only [Int.toNat_natCast, rowAt_map hi, Tm.row_eq, List.length_map, inbN, hi, Int.ofNat_lt, decide_true, cond_true, nth, List.getD_cons_zero, List.getD_cons_succ, D.I, D.S, D.L, D.B, wrap_succ hi (by unfold maxLen; omega), Option.bind_some, hc]
    rw [List.length_append, List.length_map] at ha
    rw [show Nat.ble (acc.length + t.as[i].names.length) M63 = true from Nat.ble_eq_true_of_le (by unfold M63; omega)]
    rfl) (fun acc => by
    skip
    rw [e166_0_1]
    simp)
  simp only [Int.natCast_zero] at hf
  rw [names_rows]
  by_cases hk : t.k = 1
  · rw [if_pos hk, decide_eq_true hk]
    have h1 := hf [sRow t.s] (by simp)
    simp only [sRow] at h1
    simp only [cond_true, sRow]
    rw [h1]; rfl
  · rw [if_neg hk, decide_eq_false hk]
    have h1 := hf [] (by simp)
    simp only [cond_false]
    rw [h1]; rfl
theorem r177 (t : Tm) (h : t.nodes ≤ 1048576) : rn ⟨177, 0, 0⟩ [.int t.k, .int t.n, .str t.s, .sl (t.as.map Tm.row)] = some (0, [.bool (isG t)]) := by
  show rn _ _ = _
  rw [e177_0_0]
  have hc := r166 t h
  skip
  simp only [hc, Option.bind_some, nth, List.getD_cons_zero, List.getD_cons_succ, D.I, D.S, D.L, D.B, List.length_map]
  rfl
theorem r142 : ∀ t : Tm, ∀ a0 : Rows, t.nodes ≤ 1048576 → a0.length + t.names.length ≤ 1073741824 → rn ⟨142, 1, 0⟩ [.int t.k, .int t.n, .str t.s, .sl (t.as.map Tm.row), .sl a0] = some (0, [.sl (a0 ++ t.names.map sRow)]) := Tm.ind fun t ih a0 h h' => by
  have hnd := Tm.nodes_eq t
  have hsm := names_sum t
  have hlt := len_sum (xs := t.as)
  show rn _ _ = _
  rw [e142_1_0]
  have hf := fun a1 : Rows => fun ha1 : a1.length + (t.as.flatMap fun a => a.names.map sRow).length ≤ 1073741824 => cat_loop (F := fun i acc => rn ⟨142, 1, 1⟩ [.int (i : Int), .sl acc, .int t.k, .int t.n, .str t.s, .sl (t.as.map Tm.row)]) (xs := t.as) (fun a => a.names.map sRow) a1 (K := fun acc => some (0, [.sl acc])) (fun i hi acc ha => by
    rw [List.length_append] at ha
    have hx : t.as[i].nodes ≤ (t.as.map Tm.nodes).sum := mem_sum (f := Tm.nodes) (List.getElem_mem hi)
    have hc := ih _ (List.getElem_mem hi) acc (by omega) (by rw [List.length_map] at ha; omega)
    skip
    rw [e142_1_1]
    simp only [Int.toNat_natCast, rowAt_map hi, Tm.row_eq, List.length_map, inbN, hi, Int.ofNat_lt, decide_true, cond_true, nth, List.getD_cons_zero, List.getD_cons_succ, D.I, D.S, D.L, D.B, wrap_succ hi (by unfold maxLen; omega), Option.bind_some, hc]) (fun acc => by
    skip
    rw [e142_1_1]
    simp)
  simp only [Int.natCast_zero] at hf
  have hle : t.names.length = (if t.k = 1 then [sRow t.s] else []).length + (t.as.flatMap fun a => a.names.map sRow).length := by
    rw [← List.length_append, ← names_rows, List.length_map]
  rw [names_rows]
  by_cases hk : t.k = 1
  · rw [if_pos hk] at hle
    rw [if_pos hk, decide_eq_true hk]
    have h1 := hf (a0 ++ [sRow t.s]) (by rw [List.length_append]; omega)
    simp only [sRow] at h1
    simp only [cond_true, sRow, List.length_cons, List.length_nil]
    rw [show Nat.ble (a0.length + (0 + 1)) M63 = true from Nat.ble_eq_true_of_le (by unfold M63; omega)]
    simp only [cond_true]
    rw [h1, List.append_assoc]; rfl
  · rw [if_neg hk] at hle
    rw [if_neg hk, decide_eq_false hk]
    have h1 := hf a0 (by rw [List.length_nil] at hle; omega)
    simp only [cond_false]
    rw [h1]; rfl
theorem r78 (t : Tm) (h : t.nodes ≤ 1048576) : rn ⟨78, 0, 0⟩ [.int t.k, .int t.n, .str t.s, .sl (t.as.map Tm.row)] = some (0, [.bool (isG t)]) := by
  show rn _ _ = _
  rw [e78_0_0]
  have hc := r142 t [] h (by have := names_nodes t; simp; omega)
  skip
  simp only [hc, Option.bind_some, nth, List.getD_cons_zero, List.getD_cons_succ, D.I, D.S, D.L, D.B, List.nil_append, List.length_map]
  rfl
theorem r61 : ∀ t : Tm, ∀ u : Tm, Small t → rn ⟨61, 0, 0⟩ [.int t.k, .int t.n, .str t.s, .sl (t.as.map Tm.row), .int u.k, .int u.n, .str u.s, .sl (u.as.map Tm.row)] = some (0, [.bool (eqb t.row u.row)]) := Tm.ind fun t ih u h => by
  have hlt := h.len
  show rn _ _ = _
  rw [e61_0_0]
  have hq : eqb t.row u.row = (decide (t.k = u.k) && (decide (t.n = u.n) && (decide (t.s = u.s) && eqb (t.as.map Tm.row) (u.as.map Tm.row)))) := by
    rw [Tm.row_eq t, Tm.row_eq u]
    simp only [eqb_cons, eqb_nil, eqb_int, eqb_str, eqb_sl, Bool.and_true]
  rw [hq]
  try simp only [List.length_map]
  by_cases l0 : u.as.length ≠ t.as.length
  · rw [decide_eq_false (by omega : ¬ (t.as.length : Int) = (u.as.length : Int)), eqb_len (fun h => l0 (by simpa using h.symm))]
    cases decide (t.k = u.k) <;> cases decide (t.n = u.n) <;> cases decide (t.s = u.s) <;> rfl
  have l0 := Classical.not_not.1 l0
  rw [decide_eq_true (by omega : (t.as.length : Int) = (u.as.length : Int))]
  have hf := eq_loop (F := fun i => rn ⟨61, 0, 1⟩ [.int (i : Int), .int t.k, .int t.n, .str t.s, .sl (t.as.map Tm.row), .int u.k, .int u.n, .str u.s, .sl (u.as.map Tm.row)]) (xs := t.as.map Tm.row) (ys := u.as.map Tm.row) (A := some (0, [])) (B := some (1, [])) (by simpa using l0) (fun i hi => ?_) ?_
  · simp only [Int.natCast_zero] at hf
    rw [hf]
    cases decide (t.k = u.k) <;> cases decide (t.n = u.n) <;> cases decide (t.s = u.s) <;> cases eqb (t.as.map Tm.row) (u.as.map Tm.row) <;> rfl
  · have hi : i < t.as.length := by simpa using hi
    have hi2 : i < u.as.length := by omega
    have hc := ih _ (List.getElem_mem hi) u.as[i] (h.sub (List.getElem_mem hi))
    skip
    rw [e61_0_1]
    rw [List.getElem_map, List.getElem_map]
    generalize eqb t.as[i].row u.as[i].row = z at hc ⊢
    simp only [Int.toNat_natCast, rowAt_map hi, rowAt_map hi2, Tm.row_eq, List.length_map, inbN, hi, hi2, Int.ofNat_lt, decide_true, cond_true, nth, List.getD_cons_zero, List.getD_cons_succ, D.I, D.S, D.L, D.B, wrap_succ hi (by unfold maxLen; omega), Option.bind_some, hc]
    cases z <;> rfl
  · skip
    rw [e61_0_1]
    simp
theorem r113 : ∀ t : Tm, ∀ u : Tm, Small t → rn ⟨113, 0, 0⟩ [.int t.k, .int t.n, .str t.s, .sl (t.as.map Tm.row), .int u.k, .int u.n, .str u.s, .sl (u.as.map Tm.row)] = some (0, [.bool (eqb t.row u.row)]) := Tm.ind fun t ih u h => by
  have hlt := h.len
  show rn _ _ = _
  rw [e113_0_0]
  have hq : eqb t.row u.row = (decide (t.k = u.k) && (decide (t.n = u.n) && (decide (t.s = u.s) && eqb (t.as.map Tm.row) (u.as.map Tm.row)))) := by
    rw [Tm.row_eq t, Tm.row_eq u]
    simp only [eqb_cons, eqb_nil, eqb_int, eqb_str, eqb_sl, Bool.and_true]
  rw [hq]
  try simp only [List.length_map]
  have hl : rn ⟨162, 0, 0⟩ [.sl (t.as.map Tm.row), .sl (u.as.map Tm.row)] = some (0, [.bool (eqb (t.as.map Tm.row) (u.as.map Tm.row))]) := by
    rw [e162_0_0]
    simp only [List.length_map]
    by_cases l0 : u.as.length ≠ t.as.length
    · rw [decide_eq_false (by omega : ¬ (t.as.length : Int) = (u.as.length : Int)), eqb_len (fun h => l0 (by simpa using h.symm))]; rfl
    have l0 := Classical.not_not.1 l0
    rw [decide_eq_true (by omega : (t.as.length : Int) = (u.as.length : Int))]
    have hf := eq_loop (F := fun i => rn ⟨162, 0, 1⟩ [.sl (u.as.map Tm.row), .sl (t.as.map Tm.row), .int ((t.as.map Tm.row)).length, .int (i : Int)]) (xs := t.as.map Tm.row) (ys := u.as.map Tm.row) (A := some (0, [])) (B := some (1, [])) (by simpa using l0) (fun i hi => ?_) ?_
    · simp only [Int.natCast_zero, List.length_map] at hf
      rw [hf]
      cases eqb (t.as.map Tm.row) (u.as.map Tm.row) <;> rfl
    · have hi : i < t.as.length := by simpa using hi
      have hi2 : i < u.as.length := by omega
      have hc := ih _ (List.getElem_mem hi) u.as[i] (h.sub (List.getElem_mem hi))
      skip
      rw [e162_0_1]
      rw [List.getElem_map, List.getElem_map]
      generalize eqb t.as[i].row u.as[i].row = z at hc ⊢
      simp only [Int.toNat_natCast, rowAt_map hi, rowAt_map hi2, Tm.row_eq, List.length_map, inbN, hi, hi2, Int.ofNat_lt, decide_true, cond_true, nth, List.getD_cons_zero, List.getD_cons_succ, D.I, D.S, D.L, D.B, wrap_succ hi (by unfold maxLen; omega), Option.bind_some, hc]
      cases z <;> rfl
    · skip
      rw [e162_0_1]
      simp
  simp only [hl, Option.bind_some, nth, List.getD_cons_zero, List.getD_cons_succ, D.I, D.S, D.L, D.B]
  cases decide (t.k = u.k) <;> cases decide (t.n = u.n) <;> cases decide (t.s = u.s) <;> rfl
theorem r145 (g : Gu) (h : g.ok) : rn ⟨145, 0, 0⟩ [.int g.k, .int g.l.k, .int g.l.n, .str g.l.s, .sl (g.l.as.map Tm.row), .int g.r.k, .int g.r.n, .str g.r.s, .sl (g.r.as.map Tm.row)] = some (0, [.bool (holds g)]) := by
  show rn _ _ = _
  rw [e145_0_0]
  obtain ⟨hl, hr⟩ := h
  have sl := small_of _ hl
  have sr := small_of _ hr
  have hl' := Nat.le_trans (rW_nodes g.l) hl
  have hr' := Nat.le_trans (rW_nodes g.r) hr
  have a1 := r177 g.l hl
  have a2 := r177 g.r hr
  have b1 := r156 g.l sl
  have b2 := r156 g.r sr
  have c1 := r113 (rW g.l) (rW g.r) (rW_small _ sl)
  have d1 := r178 (rW g.l)
  have d2 := r178 (rW g.r)
  skip
  simp only [a1, a2, b1, b2, c1, d1, d2, Option.bind_some, nth, List.getD_cons_zero, List.getD_cons_succ, D.I, D.S, D.L, D.B]
  unfold holds
  cases isG g.l
  · rfl
  cases isG g.r
  · rfl
  simp only [Bool.not_true, cond_false, Bool.true_and]
  by_cases k1 : g.k = 1
  · rw [if_pos k1, decide_eq_true k1]; rfl
  rw [if_neg k1, decide_eq_false k1]
  by_cases k2 : g.k = 2
  · rw [if_pos k2, decide_eq_true k2]; rfl
  rw [if_neg k2, decide_eq_false k2]
  by_cases k3 : g.k = 3
  · rw [if_pos k3, decide_eq_true k3]
    cases isW (rW g.l) <;> cases isW (rW g.r) <;> rfl
  · rw [if_neg k3, decide_eq_false k3]; rfl
theorem r88 (g : Gu) (h : g.ok) : rn ⟨88, 0, 0⟩ [.int g.k, .int g.l.k, .int g.l.n, .str g.l.s, .sl (g.l.as.map Tm.row), .int g.r.k, .int g.r.n, .str g.r.s, .sl (g.r.as.map Tm.row)] = some (0, [.bool (holds g)]) := by
  show rn _ _ = _
  rw [e88_0_0]
  obtain ⟨hl, hr⟩ := h
  have sl := small_of _ hl
  have sr := small_of _ hr
  have hl' := Nat.le_trans (rW_nodes g.l) hl
  have hr' := Nat.le_trans (rW_nodes g.r) hr
  have a1 := r78 (rW g.l) hl'
  have a2 := r78 (rW g.r) hr'
  have b1 := r147 g.l sl
  have b2 := r147 g.r sr
  have c1 := r61 (rW g.l) (rW g.r) (rW_small _ sl)
  have d1 := r148 (rW g.l)
  have d2 := r148 (rW g.r)
  skip
  simp only [a1, a2, b1, b2, c1, d1, d2, Option.bind_some, nth, List.getD_cons_zero, List.getD_cons_succ, D.I, D.S, D.L, D.B]
  unfold holds
  rw [isG_rW, isG_rW]
  cases isG g.l
  · rfl
  cases isG g.r
  · rfl
  simp only [Bool.not_true, cond_false, Bool.true_and]
  by_cases k1 : g.k = 1
  · rw [if_pos k1, decide_eq_true k1]; rfl
  rw [if_neg k1, decide_eq_false k1]
  by_cases k2 : g.k = 2
  · rw [if_pos k2, decide_eq_true k2]; rfl
  rw [if_neg k2, decide_eq_false k2]
  by_cases k3 : g.k = 3
  · rw [if_pos k3, decide_eq_true k3]
    cases isW (rW g.l) <;> cases isW (rW g.r) <;> rfl
  · rw [if_neg k3, decide_eq_false k3]; rfl
theorem r146 (l : List Bnd) (hl : l.length ≤ 1048576) (hs : ∀ b ∈ l, Small b.2) (g : Gu) (h : g.ok) : rn ⟨146, 0, 0⟩ [.sl (l.map Bnd.row), .int g.k, .int g.l.k, .int g.l.n, .str g.l.s, .sl (g.l.as.map Tm.row), .int g.r.k, .int g.r.n, .str g.r.s, .sl (g.r.as.map Tm.row)] = some (0, [.int (appG l g).k, .int (appG l g).l.k, .int (appG l g).l.n, .str (appG l g).l.s, .int (appG l g).r.k, .int (appG l g).r.n, .str (appG l g).r.s, .sl ((appG l g).l.as.map Tm.row), .sl ((appG l g).r.as.map Tm.row)]) := by
  show rn _ _ = _
  rw [e146_0_0]
  have a1 := r62 l hl hs g.l (small_of _ h.1)
  have a2 := r62 l hl hs g.r (small_of _ h.2)
  skip
  simp only [a1, a2, Option.bind_some, nth, List.getD_cons_zero, List.getD_cons_succ, D.I, D.S, D.L, D.B]
  rfl
theorem r89 (l : List Bnd) (hl : l.length ≤ 1048576) (hs : ∀ b ∈ l, Small b.2) (g : Gu) (h : g.ok) : rn ⟨89, 0, 0⟩ [.sl (l.map Bnd.row), .int g.k, .int g.l.k, .int g.l.n, .str g.l.s, .sl (g.l.as.map Tm.row), .int g.r.k, .int g.r.n, .str g.r.s, .sl (g.r.as.map Tm.row)] = some (0, [.int (appG l g).k, .int (appG l g).l.k, .int (appG l g).l.n, .str (appG l g).l.s, .int (appG l g).r.k, .int (appG l g).r.n, .str (appG l g).r.s, .sl ((appG l g).l.as.map Tm.row), .sl ((appG l g).r.as.map Tm.row)]) := by
  show rn _ _ = _
  rw [e89_0_0]
  have a1 := r129 l hl hs g.l (small_of _ h.1)
  have a2 := r129 l hl hs g.r (small_of _ h.2)
  skip
  simp only [a1, a2, Option.bind_some, nth, List.getD_cons_zero, List.getD_cons_succ, D.I, D.S, D.L, D.B]
  rfl
theorem gu_row (g : Gu) : g.row = [.int g.k, .int g.l.k, .int g.l.n, .str g.l.s, .sl (g.l.as.map Tm.row), .int g.r.k, .int g.r.n, .str g.r.s, .sl (g.r.as.map Tm.row)] := rfl
theorem r87 (l : List Bnd) (hl : l.length ≤ 1048576) (hs : ∀ b ∈ l, b.2.nodes = 1) (gs : List Gu) (hg : gs.length ≤ 1048576) (h : ∀ g ∈ gs, g.ok) : rn ⟨87, 0, 0⟩ [.sl (l.map Bnd.row), .sl (gs.map Gu.row)] = some (0, [.bool (gs.all fun g => holds (appG l g))]) := by
  have hss : ∀ b ∈ l, Small b.2 := fun b hb => small_of _ (by rw [hs b hb]; decide)
  show rn _ _ = _
  rw [e87_0_0]
  have hf := all_loop (F := fun i => rn ⟨87, 0, 1⟩ [.sl (l.map Bnd.row), .sl (gs.map Gu.row), .int (gs.map Gu.row).length, .int (i : Int)]) (xs := gs) (p := fun g => holds (appG l g)) (A := some (0, [])) (B := some (1, [])) (fun i hi => ?_) ?_
  · simp only [Int.natCast_zero] at hf
    rw [hf]
    cases gs.all fun g => holds (appG l g) <;> rfl
  · have hgi := h _ (List.getElem_mem hi)
    have a1 := r146 l hl hss gs[i] hgi
    have a2 := r145 (appG l gs[i]) (appG_ok hs hgi)
    skip
    rw [e87_0_1]
    simp only [Int.toNat_natCast, rowAt_map hi, gu_row, List.length_map, inbN, hi, Int.ofNat_lt, decide_true, cond_true, nth, List.getD_cons_zero, List.getD_cons_succ, D.I, D.S, D.L, D.B, wrap_succ hi (by unfold maxLen; omega), Option.bind_some, a1, a2]
    cases holds (appG l gs[i]) <;> rfl
  · skip
    rw [e87_0_1]
    simp
theorem cnt4_nat (n : Nat) : ((cnt4 n).toNat : Int) = cnt4 n ∧ (cnt4 n).toNat ≤ 64 := by have := cnt4_le n; omega
theorem r19 (vars : List ByteArray) (gs : List Gu) (hg : gs.length ≤ 1048576) (h : ∀ g ∈ gs, g.ok) : rn ⟨19, 0, 0⟩ [.sl (vars.map sRow), .sl (gs.map Gu.row)] = some (0, [.sl ((allC vars gs).map nRow)]) := by
  have hN := cnt4_nat vars.length
  show rn _ _ = _
  rw [e19_0_0]
  have hf := filter_loop (F := fun i acc => rn ⟨19, 0, 1⟩ [.sl (vars.map sRow), .sl (gs.map Gu.row), .int (i : Int), .sl acc]) (N := (cnt4 vars.length).toNat) (p := fun c => holdsIn vars gs (c : Int)) (g := nRow) (K := fun acc => some (0, [.sl acc])) (fun i acc hi ha => ?_) (fun acc => ?_)
  · simp only [Int.natCast_zero] at hf
    rw [hf]; rfl
  · have a1 := r16 vars.length
    have a2 := r24 vars (i : Int)
    have a3 := r87 (caseS vars (i : Int)) (caseS_len ..) (caseS_nodes _ _) gs hg h
    skip
    rw [e19_0_1]
    simp only [List.length_map, a1, a2, a3, Option.bind_some, nth, List.getD_cons_zero, List.getD_cons_succ, D.I, D.S, D.L, D.B]
    rw [decide_eq_true (by omega : (i : Int) < cnt4 vars.length)]
    simp only [cond_true, List.length_cons, List.length_nil, wrap_succ hi (by unfold maxLen; omega)]
    rw [show Nat.ble (acc.length + (0 + 1)) M63 = true from Nat.ble_eq_true_of_le (by unfold M63; omega)]
    unfold holdsIn
    cases gs.all fun g => holds (appG (caseS vars (i : Int)) g) <;> rfl
  · have a1 := r16 vars.length
    skip
    rw [e19_0_1]
    simp only [List.length_map, a1, Option.bind_some, nth, List.getD_cons_zero, List.getD_cons_succ, D.I, D.S, D.L, D.B]
    rw [decide_eq_false (by omega : ¬ ((cnt4 vars.length).toNat : Int) < cnt4 vars.length)]; rfl
theorem r21 (vars : List ByteArray) (gs : List Gu) (hg : gs.length ≤ 1048576) (h : ∀ g ∈ gs, g.ok) : rn ⟨21, 0, 0⟩ [.sl (vars.map sRow), .sl (gs.map Gu.row)] = some (0, [.sl ((allC vars gs).map nRow)]) := by
  have hN := cnt4_nat vars.length
  have a1 := r17 vars.length
  have hin : ∀ (c : Int) (acc : Rows), rn ⟨21, 0, 3⟩ [.sl (vars.map sRow), .sl (gs.map Gu.row), .int (cnt4 vars.length), .int c, .bool true, .int 0, .sl acc] = some (0, [.sl (vars.map sRow), .sl (gs.map Gu.row), .int (cnt4 vars.length), .int c, .bool (holdsIn vars gs c), .sl acc]) := fun c acc => by
    have hf := flag_loop (F := fun i b => rn ⟨21, 0, 3⟩ [.sl (vars.map sRow), .sl (gs.map Gu.row), .int (cnt4 vars.length), .int c, .bool b, .int (i : Int), .sl acc]) (xs := gs) (p := fun g => holds (appG (caseS vars c) g)) (A := fun b => some (0, [.sl (vars.map sRow), .sl (gs.map Gu.row), .int (cnt4 vars.length), .int c, .bool b, .sl acc])) (fun i hi b => ?_) (fun b => ?_)
    · simp only [Int.natCast_zero] at hf
      rw [hf]; rfl
    · have hss : ∀ b ∈ caseS vars c, Small b.2 := caseS_small vars c
      have hgi := h _ (List.getElem_mem hi)
      have b1 := r25 vars c
      have b2 := r89 (caseS vars c) (caseS_len ..) hss gs[i] hgi
      have b3 := r88 (appG (caseS vars c) gs[i]) (appG_ok (caseS_nodes _ _) hgi)
      skip
      rw [e21_0_3]
      simp only [Int.toNat_natCast, rowAt_map hi, gu_row, List.length_map, inbN, hi, Int.ofNat_lt, decide_true, cond_true, nth, List.getD_cons_zero, List.getD_cons_succ, D.I, D.S, D.L, D.B, wrap_succ hi (by unfold maxLen; omega), Option.bind_some, b1, b2, b3]
      cases b <;> rfl
    · skip
      rw [e21_0_3]
      simp
  show rn _ _ = _
  rw [e21_0_0]
  have hf := filter_loop (F := fun i acc => rn ⟨21, 0, 1⟩ [.sl (vars.map sRow), .sl (gs.map Gu.row), .int (cnt4 vars.length), .int (i : Int), .sl acc]) (N := (cnt4 vars.length).toNat) (p := fun c => holdsIn vars gs (c : Int)) (g := nRow) (K := fun acc => some (0, [.sl acc])) (fun i acc hi ha => ?_) (fun acc => ?_)
  · simp only [Int.natCast_zero] at hf a1
    simp only [List.length_map, a1, Option.bind_some, nth, List.getD_cons_zero, List.getD_cons_succ, D.I, D.S, D.L, D.B]
    rw [hf]; rfl
  · skip
    rw [e21_0_1]
    rw [decide_eq_true (by omega : (i : Int) < cnt4 vars.length), hin]
    simp only [cond_true, Option.bind_some, Nat.beq_refl, nth, List.getD_cons_zero, List.getD_cons_succ, D.I, D.S, D.L, D.B, List.length_cons, List.length_nil, wrap_succ hi (by unfold maxLen; omega)]
    rw [show Nat.ble (acc.length + (0 + 1)) M63 = true from Nat.ble_eq_true_of_le (by unfold M63; omega)]
    cases holdsIn vars gs (i : Int) <;> rfl
  · skip
    rw [e21_0_1]
    rw [decide_eq_false (by omega : ¬ ((cnt4 vars.length).toNat : Int) < cnt4 vars.length)]; rfl
end Go.Q.S
