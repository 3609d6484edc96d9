/- The functions of this seat, as that machine runs them. -/
import Derived.Test.YtboolhhmagjadaabF
import Derived.Test.YtboolhhmagjadaaM1
set_option linter.unusedVariables false
set_option linter.unusedSimpArgs false
namespace Go.Q.S
open Go Go.Q Go.Proofs
theorem r125 : ∀ t : Tm, Small t → rn ⟨125, 0, 0⟩ [.int t.k, .int t.n, .str t.s, .sl (t.as.map Tm.row)] = some (0, [.int t.k, .int t.n, .str t.s, .sl (t.as.map Tm.row)]) := Tm.ind fun t ih h => by
  have hl := h.len
  show rn _ _ = _
  rw [e125_0_0]
  have hf := map_loop (F := fun i acc => rn ⟨125, 0, 1⟩ [.sl (t.as.map Tm.row), .int ((t.as.map Tm.row)).length, .int (i : Int), .int 0, .int 0, .str (⟨#[]⟩ : ByteArray), .int t.k, .int t.n, .str t.s, .sl [], .sl acc]) (xs := t.as) Tm.row (K := fun acc => some (0, [.int (0), .int (0), .str ((⟨#[]⟩ : ByteArray)), .int (t.k), .int (t.n), .str (t.s), .sl ([]), .sl (acc)])) (fun i hi acc ha => ?_) (fun acc => ?_)
  · simp only [Int.natCast_zero] at hf; rw [hf]; rfl
  · have hc := ih _ (List.getElem_mem hi) (h.sub (List.getElem_mem hi))
    skip
    rw [e125_0_1]
    simp only [Int.toNat_natCast, rowAt_map hi, Tm.row_eq, List.length_map, inbN, hi, Int.ofNat_lt, decide_true, cond_true, nth, List.getD_cons_zero, List.getD_cons_succ, D.I, D.S, D.L, D.B, wrap_succ hi (by unfold maxLen; omega), hc, Option.bind_some, List.length_cons, List.length_nil]
    rw [show Nat.ble (acc.length + (0 + 1)) M63 = true from Nat.ble_eq_true_of_le (by unfold M63; omega)]
    rfl
  · skip
    rw [e125_0_1]
    simp
theorem r114 : ∀ t : Tm, Small t → rn ⟨114, 0, 0⟩ [.int t.k, .int t.n, .str t.s, .sl (t.as.map Tm.row)] = some (0, [.int t.k, .int t.n, .str t.s, .sl (t.as.map Tm.row)]) := Tm.ind fun t ih h => by
  have hl := h.len
  show rn _ _ = _
  rw [e114_0_0]
  have hf := map_loop (F := fun i acc => rn ⟨114, 0, 1⟩ [.int (i : Int), .int t.k, .int t.n, .str t.s, .sl (t.as.map Tm.row), .int 0, .int 0, .str (⟨#[]⟩ : ByteArray), .sl acc, .sl []]) (xs := t.as) Tm.row (K := fun acc => some (0, [.int (t.k), .int (t.n), .str (t.s), .sl ((t.as.map Tm.row)), .int (0), .int (0), .str ((⟨#[]⟩ : ByteArray)), .sl (acc), .sl ([])])) (fun i hi acc ha => ?_) (fun acc => ?_)
  · simp only [Int.natCast_zero] at hf; rw [hf]; rfl
  · have hc := ih _ (List.getElem_mem hi) (h.sub (List.getElem_mem hi))
    skip
    rw [e114_0_1]
    simp only [Int.toNat_natCast, rowAt_map hi, Tm.row_eq, List.length_map, inbN, hi, Int.ofNat_lt, decide_true, cond_true, nth, List.getD_cons_zero, List.getD_cons_succ, D.I, D.S, D.L, D.B, wrap_succ hi (by unfold maxLen; omega), hc, Option.bind_some, List.length_cons, List.length_nil]
    rw [show Nat.ble (acc.length + (0 + 1)) M63 = true from Nat.ble_eq_true_of_le (by unfold M63; omega)]
    rfl
  · skip
    rw [e114_0_1]
    simp
theorem r178 (t : Tm) : rn ⟨178, 0, 0⟩ [.int t.k, .int t.n, .str t.s, .sl (t.as.map Tm.row)] = some (0, [.bool (isW t)]) := by
  show rn _ _ = _
  rw [e178_0_0]
  simp only [List.length_map]
  unfold isW
  have e : decide ((t.as.length : Int) = 0) = decide (t.as.length = 0) := by simp
  rw [e]
  cases decide (t.k = 3) <;> cases decide (0 ≤ t.n) <;> cases decide (t.n < 4) <;> cases decide (t.s = ⟨#[]⟩) <;> cases decide (t.as.length = 0) <;> rfl
theorem r84 (a b c : Int) : rn ⟨84, 0, 0⟩ [.int a, .int b, .int c] = some (0, [.bool (decide (b ≤ a) && decide (a ≤ c))]) := by
  show rn _ _ = _
  rw [e84_0_0]
  cases decide (b ≤ a) <;> rfl
theorem r148 (t : Tm) : rn ⟨148, 0, 0⟩ [.int t.k, .int t.n, .str t.s, .sl (t.as.map Tm.row)] = some (0, [.bool (isW t)]) := by
  show rn _ _ = _
  rw [e148_0_0]
  have hc := r84 t.n 0 3
  skip
  simp only [hc, Option.bind_some, nth, List.getD_cons_zero, List.getD_cons_succ, D.I, D.S, D.L, D.B, List.length_map]
  unfold isW
  have e : decide ((t.as.length : Int) = 0) = decide (t.as.length = 0) := by simp
  have e2 : decide (t.n ≤ 3) = decide (t.n < 4) := decide_eq_decide.2 (by omega)
  rw [e, e2]
  cases decide (t.k = 3) <;> cases decide (0 ≤ t.n) <;> cases decide (t.n < 4) <;> cases decide (t.s = ⟨#[]⟩) <;> cases decide (t.as.length = 0) <;> rfl
theorem r181 (s : ByteArray) : rn ⟨181, 0, 0⟩ [.str s] = some (0, [.bool (isB s)]) := by
  show rn _ _ = _
  rw [e181_0_0]
  unfold isB plusS minusS timesS
  cases decide (s = (⟨#[112, 108, 117, 115]⟩ : ByteArray)) <;> cases decide (s = (⟨#[109, 105, 110, 117, 115]⟩ : ByteArray)) <;> cases decide (s = (⟨#[116, 105, 109, 101, 115]⟩ : ByteArray)) <;> rfl
theorem r179 (s : ByteArray) : rn ⟨179, 0, 0⟩ [.str s] = some (0, [.bool (isB s)]) := by
  show rn _ _ = _
  rw [e179_0_0]
  unfold isB plusS minusS timesS
  cases decide (s = (⟨#[112, 108, 117, 115]⟩ : ByteArray)) <;> cases decide (s = (⟨#[109, 105, 110, 117, 115]⟩ : ByteArray)) <;> cases decide (s = (⟨#[116, 105, 109, 101, 115]⟩ : ByteArray)) <;> rfl
theorem r182 (s : ByteArray) {a b : Int} (ha : 0 ≤ a) (ha' : a < 4) (hb : 0 ≤ b) (hb' : b < 4) : rn ⟨182, 0, 0⟩ [.str s, .int a, .int b] = some (0, [.int (cmp s a b)]) := by
  show rn _ _ = _
  rw [e182_0_0]
  unfold cmp plusS minusS
  have h4 : (!decide ((4 : Int) = 0)) = true := rfl
  simp only [h4, cond_true]
  obtain rfl | rfl | rfl | rfl : a = 0 ∨ a = 1 ∨ a = 2 ∨ a = 3 := by omega
  all_goals
    obtain rfl | rfl | rfl | rfl : b = 0 ∨ b = 1 ∨ b = 2 ∨ b = 3 := by omega
    all_goals
      by_cases h1 : s = (⟨#[112, 108, 117, 115]⟩ : ByteArray)
      · simp only [h1, decide_true, cond_true, if_true]; rfl
      · by_cases h2 : s = (⟨#[109, 105, 110, 117, 115]⟩ : ByteArray)
        · simp only [h1, h2, decide_true, decide_false, cond_true, cond_false, if_true, if_false]; rfl
        · simp only [h1, h2, decide_false, cond_false, if_false]; rfl
theorem r180 (s : ByteArray) {a b : Int} (ha : 0 ≤ a) (ha' : a < 4) (hb : 0 ≤ b) (hb' : b < 4) : rn ⟨180, 0, 0⟩ [.str s, .int a, .int b] = some (0, [.int (cmp s a b)]) := by
  show rn _ _ = _
  rw [e180_0_0]
  unfold cmp plusS minusS
  have h4 : (!decide ((4 : Int) = 0)) = true := rfl
  simp only [h4, cond_true]
  obtain rfl | rfl | rfl | rfl : a = 0 ∨ a = 1 ∨ a = 2 ∨ a = 3 := by omega
  all_goals
    obtain rfl | rfl | rfl | rfl : b = 0 ∨ b = 1 ∨ b = 2 ∨ b = 3 := by omega
    all_goals
      by_cases h1 : s = (⟨#[112, 108, 117, 115]⟩ : ByteArray)
      · simp only [h1, decide_true, cond_true, if_true]; rfl
      · by_cases h2 : s = (⟨#[109, 105, 110, 117, 115]⟩ : ByteArray)
        · simp only [h1, h2, decide_true, decide_false, cond_true, cond_false, if_true, if_false]; rfl
        · simp only [h1, h2, decide_false, cond_false, if_false]; rfl
theorem r124 (l : List Bnd) (hl : l.length ≤ 1048576) (s : ByteArray) : rn ⟨124, 0, 0⟩ [.sl (l.map Bnd.row), .str s] = match bnd l s with
    | some t => some (0, [.int t.k, .int t.n, .str t.s, .sl (t.as.map Tm.row), .bool true])
    | none => some (0, [.int 0, .int 0, .str ⟨#[]⟩, .sl [], .bool false]) := by
  show rn _ _ = _
  rw [e124_0_0]
  have hf := find_loop (F := fun i => rn ⟨124, 0, 1⟩ [.str s, .sl (l.map Bnd.row), .int ((l.map Bnd.row)).length, .int (i : Int), .int 0, .int 0, .str (⟨#[]⟩ : ByteArray), .sl []]) (xs := l) (p := fun b => decide (b.1 = s)) (A := some (0, [.int (0), .int (0), .str ((⟨#[]⟩ : ByteArray)), .sl ([])])) (B := fun i b => some (1, [.int b.2.k, .int b.2.n, .str b.2.s, .sl (b.2.as.map Tm.row)])) (fun i hi => ?_) ?_
  · simp only [Int.natCast_zero] at hf
    rw [bnd_find]
    rcases hf with ⟨h1, h2⟩ | ⟨i, hi, h1, h2⟩
    · rw [h1, h2]; rfl
    · rw [h1, h2]; rfl
  · skip
    rw [e124_0_1]
    simp only [Int.toNat_natCast, rowAt_map hi, bd_row, List.length_map, inbN, hi, Int.ofNat_lt, decide_true, cond_true, nth, List.getD_cons_zero, List.getD_cons_succ, D.I, D.S, D.L, D.B, wrap_succ hi (by unfold maxLen; omega)]
  · skip
    rw [e124_0_1]
    simp
theorem r130 (l : List Bnd) (hl : l.length ≤ 1048576) (s : ByteArray) : (bnd l s = none ∧ rn ⟨130, 0, 0⟩ [.sl (l.map Bnd.row), .str s] = some (0, [.int (-1)])) ∨ ∃ i, ∃ hi : i < l.length, bnd l s = some l[i].2 ∧ rn ⟨130, 0, 0⟩ [.sl (l.map Bnd.row), .str s] = some (0, [.int (i : Int)]) := by
  have hf := find_loop (F := fun i => rn ⟨130, 0, 1⟩ [.sl (l.map Bnd.row), .str s, .int (i : Int)]) (xs := l) (p := fun b => decide (b.1 = s)) (A := some (0, [])) (B := fun i b => some (1, [.int (i : Int)])) (fun i hi => ?_) ?_
  · simp only [Int.natCast_zero] at hf
    rw [bnd_find]
    rcases hf with ⟨h1, h2⟩ | ⟨i, hi, h1, h2⟩
    · left
      refine ⟨by rw [h1]; rfl, ?_⟩
      show rn _ _ = _
      rw [e130_0_0]
      rw [h2]; rfl
    · right
      refine ⟨i, hi, by rw [h1]; rfl, ?_⟩
      show rn _ _ = _
      rw [e130_0_0]
      rw [h2]; rfl
  · skip
    rw [e130_0_1]
    simp only [Int.toNat_natCast, rowAt_map hi, bd_row, List.length_map, inbN, hi, Int.ofNat_lt, decide_true, cond_true, nth, List.getD_cons_zero, List.getD_cons_succ, D.I, D.S, D.L, D.B, wrap_succ hi (by unfold maxLen; omega)]
  · skip
    rw [e130_0_1]
    simp
theorem r134 (l : List Bnd) (hl : l.length ≤ 1048576) (hs : ∀ b ∈ l, Small b.2) (s : ByteArray) : rn ⟨134, 0, 0⟩ [.sl (l.map Bnd.row), .str s] = match bnd l s with
    | some t => some (0, [.int t.k, .int t.n, .str t.s, .bool true, .sl (t.as.map Tm.row)])
    | none => some (0, [.int 0, .int 0, .str ⟨#[]⟩, .bool false, .sl []]) := by
  show rn _ _ = _
  rw [e134_0_0]
  rcases r130 l hl s with ⟨h1, h2⟩ | ⟨i, hi, h1, h2⟩
  · skip
    rw [h1, h2]; rfl
  · skip
    have hc := r114 l[i].2 (hs _ (List.getElem_mem hi))
    skip
    rw [h1, h2]
    have hn : ¬ ((i : Int) < 0) := by omega
    simp only [Option.bind_some, nth, List.getD_cons_zero, List.getD_cons_succ, D.I, D.S, D.L, D.B, Int.toNat_natCast, rowAt_map hi, bd_row, List.length_map, inbN, hi, hn, decide_true, decide_false, cond_true, cond_false, hc]
theorem r62 (l : List Bnd) (hl : l.length ≤ 1048576) (hs : ∀ b ∈ l, Small b.2) : ∀ t : Tm, Small t → rn ⟨62, 0, 0⟩ [.sl (l.map Bnd.row), .int t.k, .int t.n, .str t.s, .sl (t.as.map Tm.row)] = some (0, [.int (aS l t).k, .int (aS l t).n, .str (aS l t).s, .sl ((aS l t).as.map Tm.row)]) := Tm.ind fun t ih h => by
  have hlt := h.len
  show rn _ _ = _
  rw [e62_0_0]
  have hf := map_loop (F := fun i acc => rn ⟨62, 0, 1⟩ [.sl (l.map Bnd.row), .sl (t.as.map Tm.row), .int ((t.as.map Tm.row)).length, .int (i : Int), .int 0, .int 0, .str (⟨#[]⟩ : ByteArray), .int t.k, .int t.n, .str t.s, .sl [], .sl acc]) (xs := t.as) (fun x => (aS l x).row) (K := fun acc => some (0, [.int (0), .int (0), .str ((⟨#[]⟩ : ByteArray)), .int (t.k), .int (t.n), .str (t.s), .sl ([]), .sl (acc)])) (fun i hi acc ha => ?_) (fun acc => ?_)
  · simp only [Int.natCast_zero] at hf
    have hb := r124 l hl t.s
    skip
    rw [aS_eq]
    by_cases hk : t.k = 1
    · rw [if_pos hk]
      cases hq : bnd l t.s with
      | none =>
        rw [hq] at hb
        simp only at hb
        simp only [decide_eq_true hk, cond_true, hb, Option.bind_some, nth, List.getD_cons_zero, List.getD_cons_succ, D.I, D.S, D.L, D.B, cond_false, hf]
        simp [Tm.k, Tm.n, Tm.s, Tm.as, Function.comp_def]
      | some u =>
        rw [hq] at hb
        simp only at hb
        obtain ⟨b, hbm, rfl⟩ := bnd_mem hq
        have hcp := r125 b.2 (hs b hbm)
        skip
        simp only [decide_eq_true hk, cond_true, hb, Option.bind_some, nth, List.getD_cons_zero, List.getD_cons_succ, D.I, D.S, D.L, D.B, hcp]
    · rw [if_neg hk]
      simp only [decide_eq_false hk, cond_false, hf, Option.bind_some, nth, List.getD_cons_zero, List.getD_cons_succ, D.I, D.S, D.L, D.B]
      simp [Tm.k, Tm.n, Tm.s, Tm.as, Function.comp_def]
  · have hc := ih _ (List.getElem_mem hi) (h.sub (List.getElem_mem hi))
    skip
    rw [e62_0_1]
    simp only [Int.toNat_natCast, rowAt_map hi, Tm.row_eq, List.length_map, inbN, hi, Int.ofNat_lt, decide_true, cond_true, nth, List.getD_cons_zero, List.getD_cons_succ, D.I, D.S, D.L, D.B, wrap_succ hi (by unfold maxLen; omega), hc, Option.bind_some, List.length_cons, List.length_nil]
    rw [show Nat.ble (acc.length + (0 + 1)) M63 = true from Nat.ble_eq_true_of_le (by unfold M63; omega)]
    rfl
  · skip
    rw [e62_0_1]
    simp
theorem r129 (l : List Bnd) (hl : l.length ≤ 1048576) (hs : ∀ b ∈ l, Small b.2) : ∀ t : Tm, Small t → rn ⟨129, 0, 0⟩ [.sl (l.map Bnd.row), .int t.k, .int t.n, .str t.s, .sl (t.as.map Tm.row)] = some (0, [.int (aS l t).k, .int (aS l t).n, .str (aS l t).s, .sl ((aS l t).as.map Tm.row)]) := Tm.ind fun t ih h => by
  have hlt := h.len
  show rn _ _ = _
  rw [e129_0_0]
  have hf := map_loop (F := fun i acc => rn ⟨129, 0, 1⟩ [.sl (l.map Bnd.row), .int (i : Int), .int t.k, .int t.n, .str t.s, .sl (t.as.map Tm.row), .int 0, .int 0, .str (⟨#[]⟩ : ByteArray), .int t.k, .int t.n, .str t.s, .sl [], .sl acc]) (xs := t.as) (fun x => (aS l x).row) (K := fun acc => some (0, [.int (0), .int (0), .str ((⟨#[]⟩ : ByteArray)), .int (t.k), .int (t.n), .str (t.s), .sl ([]), .sl (acc)])) (fun i hi acc ha => ?_) (fun acc => ?_)
  · simp only [Int.natCast_zero] at hf
    have hb := r134 l hl hs t.s
    skip
    rw [aS_eq]
    by_cases hk : t.k = 1
    · rw [if_pos hk]
      cases hq : bnd l t.s with
      | none =>
        rw [hq] at hb
        simp only at hb
        simp only [decide_eq_true hk, cond_true, hb, Option.bind_some, nth, List.getD_cons_zero, List.getD_cons_succ, D.I, D.S, D.L, D.B, cond_false, hf]
        simp [Tm.k, Tm.n, Tm.s, Tm.as, Function.comp_def]
      | some u =>
        rw [hq] at hb
        simp only at hb
        obtain ⟨b, hbm, rfl⟩ := bnd_mem hq
        have hcp := r125 b.2 (hs b hbm)
        skip
        simp only [decide_eq_true hk, cond_true, hb, Option.bind_some, nth, List.getD_cons_zero, List.getD_cons_succ, D.I, D.S, D.L, D.B, hcp]
    · rw [if_neg hk]
      simp only [decide_eq_false hk, cond_false, hf, Option.bind_some, nth, List.getD_cons_zero, List.getD_cons_succ, D.I, D.S, D.L, D.B]
      simp [Tm.k, Tm.n, Tm.s, Tm.as, Function.comp_def]
  · have hc := ih _ (List.getElem_mem hi) (h.sub (List.getElem_mem hi))
    skip
    rw [e129_0_1]
    simp only [Int.toNat_natCast, rowAt_map hi, Tm.row_eq, List.length_map, inbN, hi, Int.ofNat_lt, decide_true, cond_true, nth, List.getD_cons_zero, List.getD_cons_succ, D.I, D.S, D.L, D.B, wrap_succ hi (by unfold maxLen; omega), hc, Option.bind_some, List.length_cons, List.length_nil]
    rw [show Nat.ble (acc.length + (0 + 1)) M63 = true from Nat.ble_eq_true_of_le (by unfold M63; omega)]
    rfl
  · skip
    rw [e129_0_1]
    simp
theorem r156 : ∀ t : Tm, Small t → rn ⟨156, 0, 0⟩ [.int t.k, .int t.n, .str t.s, .sl (t.as.map Tm.row)] = some (0, [.int (rW t).k, .int (rW t).n, .str (rW t).s, .sl ((rW t).as.map Tm.row)]) := Tm.ind fun t ih h => by
  have hlt := h.len
  show rn _ _ = _
  rw [e156_0_0]
  have hf := map_loop (F := fun i acc => rn ⟨156, 0, 1⟩ [.sl (t.as.map Tm.row), .int ((t.as.map Tm.row)).length, .int (i : Int), .int 0, .int 0, .str (⟨#[]⟩ : ByteArray), .int t.k, .int t.n, .str t.s, .sl [], .sl acc]) (xs := t.as) (fun x => (rW x).row) (K := fun acc => some (0, [.int (0), .int (0), .str ((⟨#[]⟩ : ByteArray)), .int (t.k), .int (t.n), .str (t.s), .sl ([]), .sl (acc)])) (fun i hi acc ha => ?_) (fun acc => ?_)
  · simp only [Int.natCast_zero] at hf
    have e : t.as.map (fun x => (rW x).row) = (t.as.map rW).map Tm.row := by simp [Function.comp_def]
    rw [e] at hf
    rw [rW_eq]
    generalize t.as.map rW = us at hf ⊢
    have hB := r181 t.s
    skip
    rw [hf]
    simp only [Option.bind_some, Nat.beq_refl, cond_true, nth, List.getD_cons_zero, List.getD_cons_succ, D.I, D.S, D.L, D.B, hB, List.length_map]
    by_cases h1 : t.k = 2
    case neg =>
      simp only [decide_eq_false h1, cond_false]
      unfold rW1
      split
      · rw [if_neg (fun h => h1 h.1)]; rfl
      · rfl
    by_cases h2 : t.n = 0
    case neg =>
      simp only [decide_eq_true h1, decide_eq_false h2, cond_true, cond_false]
      unfold rW1
      split
      · rw [if_neg (fun h => h2 h.2.1)]; rfl
      · rfl
    simp only [decide_eq_true h1, decide_eq_true h2, cond_true]
    cases h3 : isB t.s with
    | false =>
      simp only [cond_false]
      unfold rW1
      split
      · rw [if_neg (fun h => by rw [h3] at h; exact absurd h.2.2.1 (by decide))]; rfl
      · rfl
    | true =>
      simp only [cond_true]
      match us with
      | [] => rfl
      | [x] => rfl
      | x :: y :: z :: zs =>
        have : ¬ (((x :: y :: z :: zs).length : Int) = 2) := by simp only [List.length_cons]; omega
        simp only [decide_eq_false this, cond_false]
        rfl
      | [x, y] =>
        have hx := r178 x
        have hy := r178 y
        skip
        have l2 : decide ((([x, y] : List Tm).length : Int) = 2) = true := rfl
        have i0 : inb 0 ([x, y] : List Tm).length = true := rfl
        have i1 : inb 1 ([x, y] : List Tm).length = true := rfl
        have r0 : rowAt (([x, y] : List Tm).map Tm.row) (Int.toNat 0) = x.row := rfl
        have r1 : rowAt (([x, y] : List Tm).map Tm.row) (Int.toNat 1) = y.row := rfl
        simp only [l2, i0, i1, r0, r1, cond_true, Tm.row_eq, nth, List.getD_cons_zero, List.getD_cons_succ, D.I, D.S, D.L, D.B, hx, hy, Option.bind_some]
        unfold rW1
        simp only
        cases h4 : isW x with
        | false => simp only [cond_false]; rw [if_neg (fun h => by simp at h)]; rfl
        | true =>
          cases h5 : isW y with
          | false => simp only [cond_true, cond_false]; rw [if_neg (fun h => by simp at h)]; rfl
          | true =>
            have b1 := h4
            have b2 := h5
            simp only [isW, Bool.and_eq_true, decide_eq_true_eq] at b1 b2
            have hcm := r182 t.s b1.2.1 b1.2.2.1 b2.2.1 b2.2.2.1
            skip
            simp only [cond_true, hcm, Option.bind_some, nth, List.getD_cons_zero, List.getD_cons_succ, D.I, D.S, D.L, D.B]
            rw [if_pos ⟨h1, h2, h3, trivial, trivial⟩]
            rfl
  · have hc := ih _ (List.getElem_mem hi) (h.sub (List.getElem_mem hi))
    skip
    rw [e156_0_1]
    simp only [Int.toNat_natCast, rowAt_map hi, Tm.row_eq, List.length_map, inbN, hi, Int.ofNat_lt, decide_true, cond_true, nth, List.getD_cons_zero, List.getD_cons_succ, D.I, D.S, D.L, D.B, wrap_succ hi (by unfold maxLen; omega), hc, Option.bind_some, List.length_cons, List.length_nil]
    rw [show Nat.ble (acc.length + (0 + 1)) M63 = true from Nat.ble_eq_true_of_le (by unfold M63; omega)]
    rfl
  · skip
    rw [e156_0_1]
    simp
theorem r91 (n : Int) : rn ⟨91, 0, 0⟩ [.int n] = some (0, [.int 3, .int n, .str ⟨#[]⟩, .sl []]) := by
  show rn _ _ = _
  rw [e91_0_0]
theorem r147 : ∀ t : Tm, Small t → rn ⟨147, 0, 0⟩ [.int t.k, .int t.n, .str t.s, .sl (t.as.map Tm.row)] = some (0, [.int (rW t).k, .int (rW t).n, .str (rW t).s, .sl ((rW t).as.map Tm.row)]) := Tm.ind fun t ih h => by
  have hlt := h.len
  show rn _ _ = _
  rw [e147_0_0]
  have hf := map_loop (F := fun i acc => rn ⟨147, 0, 1⟩ [.int (i : Int), .int t.k, .int t.n, .str t.s, .sl (t.as.map Tm.row), .int 0, .int 0, .str (⟨#[]⟩ : ByteArray), .int t.k, .int t.n, .str t.s, .sl [], .sl acc]) (xs := t.as) (fun x => (rW x).row) (K := fun acc => some (0, [.int (t.k), .int (t.n), .str (t.s), .sl ((t.as.map Tm.row)), .int (0), .int (0), .str ((⟨#[]⟩ : ByteArray)), .int (t.k), .int (t.n), .str (t.s), .sl ([]), .sl (acc)])) (fun i hi acc ha => ?_) (fun acc => ?_)
  · simp only [Int.natCast_zero] at hf
    have e : t.as.map (fun x => (rW x).row) = (t.as.map rW).map Tm.row := by simp [Function.comp_def]
    rw [e] at hf
    rw [rW_eq]
    generalize t.as.map rW = us at hf ⊢
    have hB := r179 t.s
    skip
    rw [hf]
    simp only [Option.bind_some, Nat.beq_refl, cond_true, nth, List.getD_cons_zero, List.getD_cons_succ, D.I, D.S, D.L, D.B, hB, List.length_map]
    by_cases h1 : t.k = 2
    case neg =>
      simp only [decide_eq_false h1, cond_false]
      unfold rW1
      split
      · rw [if_neg (fun h => h1 h.1)]; rfl
      · rfl
    by_cases h2 : t.n = 0
    case neg =>
      simp only [decide_eq_true h1, decide_eq_false h2, cond_true, cond_false]
      unfold rW1
      split
      · rw [if_neg (fun h => h2 h.2.1)]; rfl
      · rfl
    simp only [decide_eq_true h1, decide_eq_true h2, cond_true]
    cases h3 : isB t.s with
    | false =>
      simp only [cond_false]
      unfold rW1
      split
      · rw [if_neg (fun h => by rw [h3] at h; exact absurd h.2.2.1 (by decide))]; rfl
      · rfl
    | true =>
      simp only [cond_true]
      match us with
      | [] => rfl
      | [x] => rfl
      | x :: y :: z :: zs =>
        have : ¬ (((x :: y :: z :: zs).length : Int) = 2) := by simp only [List.length_cons]; omega
        simp only [decide_eq_false this, cond_false]
        rfl
      | [x, y] =>
        have hx := r148 x
        have hy := r148 y
        skip
        have l2 : decide ((([x, y] : List Tm).length : Int) = 2) = true := rfl
        have i0 : inb 0 ([x, y] : List Tm).length = true := rfl
        have i1 : inb 1 ([x, y] : List Tm).length = true := rfl
        have r0 : rowAt (([x, y] : List Tm).map Tm.row) (Int.toNat 0) = x.row := rfl
        have r1 : rowAt (([x, y] : List Tm).map Tm.row) (Int.toNat 1) = y.row := rfl
        simp only [l2, i0, i1, r0, r1, cond_true, Tm.row_eq, nth, List.getD_cons_zero, List.getD_cons_succ, D.I, D.S, D.L, D.B, hx, hy, Option.bind_some]
        unfold rW1
        simp only
        cases h4 : isW x with
        | false => simp only [cond_false]; rw [if_neg (fun h => by simp at h)]; rfl
        | true =>
          cases h5 : isW y with
          | false => simp only [cond_true, cond_false]; rw [if_neg (fun h => by simp at h)]; rfl
          | true =>
            have b1 := h4
            have b2 := h5
            simp only [isW, Bool.and_eq_true, decide_eq_true_eq] at b1 b2
            have hcm := r180 t.s b1.2.1 b1.2.2.1 b2.2.1 b2.2.2.1
            skip
            have hwd := r91 (cmp t.s x.n y.n)
            skip
            simp only [cond_true, hcm, Option.bind_some, nth, List.getD_cons_zero, List.getD_cons_succ, D.I, D.S, D.L, D.B, hwd]
            rw [if_pos ⟨h1, h2, h3, trivial, trivial⟩]
            rfl
  · have hc := ih _ (List.getElem_mem hi) (h.sub (List.getElem_mem hi))
    skip
    rw [e147_0_1]
    simp only [Int.toNat_natCast, rowAt_map hi, Tm.row_eq, List.length_map, inbN, hi, Int.ofNat_lt, decide_true, cond_true, nth, List.getD_cons_zero, List.getD_cons_succ, D.I, D.S, D.L, D.B, wrap_succ hi (by unfold maxLen; omega), hc, Option.bind_some, List.length_cons, List.length_nil]
    rw [show Nat.ble (acc.length + (0 + 1)) M63 = true from Nat.ble_eq_true_of_le (by unfold M63; omega)]
    rfl
  · skip
    rw [e147_0_1]
    simp
end Go.Q.S
