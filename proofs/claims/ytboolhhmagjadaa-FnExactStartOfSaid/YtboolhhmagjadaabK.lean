/- The functions of this seat, as that machine runs them. -/
import Derived.Test.YtboolhhmagjadaabF
import Derived.Test.YtboolhhmagjadaaM5
set_option linter.unusedVariables false
set_option linter.unusedSimpArgs false
namespace Go.Q.S
open Go Go.Q Go.Proofs
noncomputable def mt (k : Int) : ByteArray := match rn ⟨158, 0, 0⟩ [.int k] with | some (0, [.str s]) => s | _ => ⟨#[]⟩
theorem mt_ok {k : Int} (h0 : 0 < k) (hb : k ≤ BK) : rn ⟨158, 0, 0⟩ [.int k] = some (0, [.str (mt k)]) := by
  have hg : ∃ s, rn ⟨158, 0, 0⟩ [.int k] = some (0, [.str s]) := by
    rw [e158_0_0]
    rw [decide_eq_false (by omega : ¬ k ≤ 0)]
    simp only [cond_false]
    have hk : ∀ (n : Nat) (k : Int) (t : ByteArray), 0 ≤ k → k < 10 ^ n → k ≤ BK → t.size + n ≤ 100 → ∃ s : ByteArray, s.size ≤ 100 ∧ rn ⟨158, 0, 1⟩ [.int k, .str t] = some (0, [.str s]) := by
      intro n
      induction n with
      | zero =>
        intro k t h0 h1 _ ht
        rw [e158_0_1]
        rw [decide_eq_false (by simp at h1; omega : ¬ (0 : Int) < k)]
        exact ⟨t, by omega, rfl⟩
      | succ n ih =>
        intro k t h0 h1 hn ht; unfold BK at hn
        by_cases hk : 0 < k
        · obtain ⟨s, hs, e⟩ := ih (k / 10) (bytesOf ([[.int (IntKind.u8.wrap (IntKind.i64.wrap (48 + (Int.tmod k 10))))]] : Rows) ++ t) (by omega) (by rw [Int.pow_succ] at h1; omega) (by unfold BK; omega) (by rw [ByteArray.size_append, size1]; omega)
          refine ⟨s, hs, ?_⟩
          rw [e158_0_1]
          rw [decide_eq_true hk, decide_eq_false (by omega : ¬ (10 : Int) = 0), decide_eq_true (show (bytesOf ([[.int (IntKind.u8.wrap (IntKind.i64.wrap (48 + (Int.tmod k 10))))]] : Rows)).size + t.size ≤ i64max from by rw [size1]; unfold i64max; omega)]
          simp only [cond_true, Bool.not_false]
          have hq : IntKind.i64.wrap (Int.tdiv k 10) = k / 10 := by
            rw [Int.tdiv_eq_ediv_of_nonneg h0]
            exact IntWalk.i64_in _ (by omega)
          rw [hq]; exact e
        · obtain rfl : k = 0 := by omega
          rw [e158_0_1]
          exact ⟨t, by omega, rfl⟩
    obtain ⟨s, hs, e⟩ := hk 19 k ⟨#[]⟩ (by omega) (by unfold BK at hb; simp; omega) hb (by decide)
    rw [e]
    simp only [Option.bind_some, nth, List.getD_cons_zero, List.getD_cons_succ, D.I, D.S, D.L, D.B, Nat.beq_refl, cond_true]
    rw [decide_eq_true (show (⟨#[109]⟩ : ByteArray).size + s.size ≤ i64max from by have : (⟨#[109]⟩ : ByteArray).size = 1 := rfl; unfold i64max; omega)]
    exact ⟨_, rfl⟩
  obtain ⟨s, e⟩ := hg
  unfold mt
  rw [e]
  rfl
theorem m103_1 {rs : Rows} (hl : rs.length ≤ maxLen) (hW : WRs H rs L9) {k : Int} (hk : 0 < k) (hb : k + cntR rs ≤ BK) : rn ⟨103, 1, 0⟩ [.int k, .sl rs] = some (0, [.int (k + cntR rs), .sl (mkR mt rs k)]) := by
  show rn ⟨103, 1, 0⟩ _ = _
  rw [e103_1_0]
  have hf := mark_loop (mt := mt) (F := fun i k y => rn ⟨103, 1, 1⟩ [.int k, .int (i : Int), .sl y]) (rs := rs) hk hb (fun i hi k y hyl hy hk hb => by
    have hw := WRs_mem hW (List.getElem_mem hi)
    obtain ⟨a0, hr, b0⟩ := wl9 hw
    have hiy : i < y.length := by omega
    rw [hr] at hy hb ⊢
    have em : mkL mt [.str a0] k = [.str (mt (k))] := by simp only [mkL, mkD, cntD, Int.natCast_one]
    have ek : k + ((cntL [.str a0] : Nat) : Int) = k + 1 := by simp only [cntL, cntD]; omega
    rw [em]
    rw [ek] at hb ⊢
    have t0 := mt_ok (k := k) (by omega) (by omega)
    have w0 : IntKind.i64.wrap (k + 1) = k + 1 := wrap_k (by omega) (by omega)
    rw [e103_1_1]
    simp only [Int.toNat_natCast, over_row_two hiy, over_row_at hiy, over_row_len hiy, hyl, hy, inbN, hi, decide_true, cond_true, Int.ofNat_lt, over, nth, List.getD_cons_zero, List.getD_cons_succ, D.I, D.S, D.L, D.B, t0, w0, Option.bind_some, wrap_succ hi hl]) (fun k y hyl => by
    rw [e103_1_1]
    simp [hyl])
  rw [Int.natCast_zero] at hf
  simp only [hf, Option.bind_some, Nat.beq_refl, cond_true, nth, List.getD_cons_zero, List.getD_cons_succ, D.I, D.S, D.L, D.B]
theorem m105_2 : ∀ (N : Nat) (rs : Rows), SizeOf.sizeOf rs < N → rs.length ≤ maxLen → WRs H rs L50 → ∀ k : Int, 0 < k → k + cntR rs ≤ BK → rn ⟨105, 2, 0⟩ [.int k, .sl rs] = some (0, [.int (k + cntR rs), .sl (mkR mt rs k)])
  | 0, rs, hN, _, _, _, _, _ => absurd hN (Nat.not_lt_zero _)
  | N + 1, rs, hN, hl, hW, k, hk, hb => by
    show rn ⟨105, 2, 0⟩ _ = _
    rw [e105_2_0]
    have hf := mark_loop (mt := mt) (F := fun i k y => rn ⟨105, 2, 1⟩ [.int k, .int (i : Int), .sl y]) (rs := rs) hk hb (fun i hi k y hyl hy hk hb => by
      have hw := WRs_mem hW (List.getElem_mem hi)
      obtain ⟨a0, a1, a2, a3, hr, b2, b3, c3⟩ := wl50 hw
      have hiy : i < y.length := by omega
      rw [hr] at hy hb ⊢
      have em : mkL mt [.int a0, .int a1, .str a2, .sl a3] k = [.int (k), .int (k + 1), .str (mt (k + 1 + 1)), .sl (mkR mt a3 (k + 1 + 1 + 1))] := by simp only [mkL, mkD, cntD, Int.natCast_one]
      have ek : k + ((cntL [.int a0, .int a1, .str a2, .sl a3] : Nat) : Int) = k + 1 + 1 + 1 + (cntR a3 : Int) := by simp only [cntL, cntD]; omega
      rw [em]
      rw [ek] at hb ⊢
      have w0 : IntKind.i64.wrap (k + 1) = k + 1 := wrap_k (by omega) (by omega)
      have w1 : IntKind.i64.wrap (k + 1 + 1) = k + 1 + 1 := wrap_k (by omega) (by omega)
      have t2 := mt_ok (k := k + 1 + 1) (by omega) (by omega)
      have w2 : IntKind.i64.wrap (k + 1 + 1 + 1) = k + 1 + 1 + 1 := wrap_k (by omega) (by omega)
      have s3 := m105_2 N a3 (by have h1 := size_row (r := rs[i]) (rs := rs) (List.getElem_mem hi); rw [hr] at h1; simp only [List.cons.sizeOf_spec, D.sl.sizeOf_spec] at h1 hN; omega) b3 c3 (k + 1 + 1 + 1) (by omega) (by omega)
      skip
      rw [e105_2_1]
      simp only [Int.toNat_natCast, over_row_two hiy, over_row_at hiy, over_row_len hiy, hyl, hy, inbN, hi, decide_true, cond_true, Int.ofNat_lt, over, nth, List.getD_cons_zero, List.getD_cons_succ, D.I, D.S, D.L, D.B, w0, w1, t2, w2, s3, Option.bind_some, wrap_succ hi hl]) (fun k y hyl => by
      rw [e105_2_1]
      simp [hyl])
    rw [Int.natCast_zero] at hf
    simp only [hf, Option.bind_some, Nat.beq_refl, cond_true, nth, List.getD_cons_zero, List.getD_cons_succ, D.I, D.S, D.L, D.B]
theorem m105_1 {rs : Rows} (hl : rs.length ≤ maxLen) (hW : WRs H rs L50) {k : Int} (hk : 0 < k) (hb : k + cntR rs ≤ BK) : rn ⟨105, 1, 0⟩ [.int k, .sl rs] = some (0, [.int (k + cntR rs), .sl (mkR mt rs k)]) := by
  show rn ⟨105, 1, 0⟩ _ = _
  rw [e105_1_0]
  have hf := mark_loop (mt := mt) (F := fun i k y => rn ⟨105, 1, 1⟩ [.int k, .int (i : Int), .sl y]) (rs := rs) hk hb (fun i hi k y hyl hy hk hb => by
    have hw := WRs_mem hW (List.getElem_mem hi)
    obtain ⟨a0, a1, a2, a3, hr, b2, b3, c3⟩ := wl50 hw
    have hiy : i < y.length := by omega
    rw [hr] at hy hb ⊢
    have em : mkL mt [.int a0, .int a1, .str a2, .sl a3] k = [.int (k), .int (k + 1), .str (mt (k + 1 + 1)), .sl (mkR mt a3 (k + 1 + 1 + 1))] := by simp only [mkL, mkD, cntD, Int.natCast_one]
    have ek : k + ((cntL [.int a0, .int a1, .str a2, .sl a3] : Nat) : Int) = k + 1 + 1 + 1 + (cntR a3 : Int) := by simp only [cntL, cntD]; omega
    rw [em]
    rw [ek] at hb ⊢
    have w0 : IntKind.i64.wrap (k + 1) = k + 1 := wrap_k (by omega) (by omega)
    have w1 : IntKind.i64.wrap (k + 1 + 1) = k + 1 + 1 := wrap_k (by omega) (by omega)
    have t2 := mt_ok (k := k + 1 + 1) (by omega) (by omega)
    have w2 : IntKind.i64.wrap (k + 1 + 1 + 1) = k + 1 + 1 + 1 := wrap_k (by omega) (by omega)
    have s3 := m105_2 _ a3 (Nat.lt_succ_self _) b3 c3 (k + 1 + 1 + 1) (by omega) (by omega)
    skip
    rw [e105_1_1]
    simp only [Int.toNat_natCast, over_row_two hiy, over_row_at hiy, over_row_len hiy, hyl, hy, inbN, hi, decide_true, cond_true, Int.ofNat_lt, over, nth, List.getD_cons_zero, List.getD_cons_succ, D.I, D.S, D.L, D.B, w0, w1, t2, w2, s3, Option.bind_some, wrap_succ hi hl]) (fun k y hyl => by
    rw [e105_1_1]
    simp [hyl])
  rw [Int.natCast_zero] at hf
  simp only [hf, Option.bind_some, Nat.beq_refl, cond_true, nth, List.getD_cons_zero, List.getD_cons_succ, D.I, D.S, D.L, D.B]
theorem mT33_1 (a0 : Int) (a1 : Int) (a2 : ByteArray) (a3 : Rows) (h : WL H [.int a0, .int a1, .str a2, .sl a3] L50) {k : Int} (hk : 0 < k) (hb : k + (cntR a3 : Int) ≤ BK) : rn ⟨33, 1, 0⟩ [.int a0, .int a1, .str a2, .int k, .sl a3] = some (0, [.int (k + (cntR a3 : Int)), .sl (mkR mt a3 (k))]) := by
  obtain ⟨x0, x1, x2, x3, hh, bx2, bx3, cx3⟩ := wl50 h
  simp only [List.cons.injEq, D.int.injEq, D.bool.injEq, D.str.injEq, D.sl.injEq, and_true] at hh
  obtain ⟨rfl, rfl, rfl, rfl⟩ := hh
  have e0 := m105_1 (k := k) bx3 cx3 (by omega) (by omega)
  skip
  show rn ⟨33, 1, 0⟩ _ = _
  rw [e33_1_0]
  simp only [e0, Option.bind_some, cond_false, nth, List.getD_cons_zero, List.getD_cons_succ, D.I, D.S, D.L, D.B]
theorem m104_1 {rs : Rows} (hl : rs.length ≤ maxLen) (hW : WRs H rs L111) {k : Int} (hk : 0 < k) (hb : k + cntR rs ≤ BK) : rn ⟨104, 1, 0⟩ [.int k, .sl rs] = some (0, [.int (k + cntR rs), .sl (mkR mt rs k)]) := by
  show rn ⟨104, 1, 0⟩ _ = _
  rw [e104_1_0]
  have hf := mark_loop (mt := mt) (F := fun i k y => rn ⟨104, 1, 1⟩ [.int k, .int (i : Int), .sl y]) (rs := rs) hk hb (fun i hi k y hyl hy hk hb => by
    have hw := WRs_mem hW (List.getElem_mem hi)
    obtain ⟨a0, a1, a2, a3, a4, a5, a6, a7, a8, hr, b3, b4, c4, b7, b8, c8⟩ := wl111 hw
    have hiy : i < y.length := by omega
    rw [hr] at hy hb ⊢
    have em : mkL mt [.int a0, .int a1, .int a2, .str a3, .sl a4, .int a5, .int a6, .str a7, .sl a8] k = [.int (k), .int (k + 1), .int (k + 1 + 1), .str (mt (k + 1 + 1 + 1)), .sl (mkR mt a4 (k + 1 + 1 + 1 + 1)), .int (k + 1 + 1 + 1 + 1 + (cntR a4 : Int)), .int (k + 1 + 1 + 1 + 1 + (cntR a4 : Int) + 1), .str (mt (k + 1 + 1 + 1 + 1 + (cntR a4 : Int) + 1 + 1)), .sl (mkR mt a8 (k + 1 + 1 + 1 + 1 + (cntR a4 : Int) + 1 + 1 + 1))] := by simp only [mkL, mkD, cntD, Int.natCast_one]
    have ek : k + ((cntL [.int a0, .int a1, .int a2, .str a3, .sl a4, .int a5, .int a6, .str a7, .sl a8] : Nat) : Int) = k + 1 + 1 + 1 + 1 + (cntR a4 : Int) + 1 + 1 + 1 + (cntR a8 : Int) := by simp only [cntL, cntD]; omega
    rw [em]
    rw [ek] at hb ⊢
    have w0 : IntKind.i64.wrap (k + 1) = k + 1 := wrap_k (by omega) (by omega)
    have w1 : IntKind.i64.wrap (k + 1 + 1) = k + 1 + 1 := wrap_k (by omega) (by omega)
    have w2 : IntKind.i64.wrap (k + 1 + 1 + 1) = k + 1 + 1 + 1 := wrap_k (by omega) (by omega)
    have t3 := mt_ok (k := k + 1 + 1 + 1) (by omega) (by omega)
    have w3 : IntKind.i64.wrap (k + 1 + 1 + 1 + 1) = k + 1 + 1 + 1 + 1 := wrap_k (by omega) (by omega)
    have s4 := m105_2 _ a4 (Nat.lt_succ_self _) b4 c4 (k + 1 + 1 + 1 + 1) (by omega) (by omega)
    skip
    have w5 : IntKind.i64.wrap (k + 1 + 1 + 1 + 1 + (cntR a4 : Int) + 1) = k + 1 + 1 + 1 + 1 + (cntR a4 : Int) + 1 := wrap_k (by omega) (by omega)
    have w6 : IntKind.i64.wrap (k + 1 + 1 + 1 + 1 + (cntR a4 : Int) + 1 + 1) = k + 1 + 1 + 1 + 1 + (cntR a4 : Int) + 1 + 1 := wrap_k (by omega) (by omega)
    have t7 := mt_ok (k := k + 1 + 1 + 1 + 1 + (cntR a4 : Int) + 1 + 1) (by omega) (by omega)
    have w7 : IntKind.i64.wrap (k + 1 + 1 + 1 + 1 + (cntR a4 : Int) + 1 + 1 + 1) = k + 1 + 1 + 1 + 1 + (cntR a4 : Int) + 1 + 1 + 1 := wrap_k (by omega) (by omega)
    have s8 := m105_2 _ a8 (Nat.lt_succ_self _) b8 c8 (k + 1 + 1 + 1 + 1 + (cntR a4 : Int) + 1 + 1 + 1) (by omega) (by omega)
    skip
    rw [e104_1_1]
    simp only [Int.toNat_natCast, over_row_two hiy, over_row_at hiy, over_row_len hiy, hyl, hy, inbN, hi, decide_true, cond_true, Int.ofNat_lt, over, nth, List.getD_cons_zero, List.getD_cons_succ, D.I, D.S, D.L, D.B, w0, w1, w2, t3, w3, s4, w5, w6, t7, w7, s8, Option.bind_some, wrap_succ hi hl]) (fun k y hyl => by
    rw [e104_1_1]
    simp [hyl])
  rw [Int.natCast_zero] at hf
  simp only [hf, Option.bind_some, Nat.beq_refl, cond_true, nth, List.getD_cons_zero, List.getD_cons_succ, D.I, D.S, D.L, D.B]
theorem mT32_1 (a0 : Rows) (a1 : Int) (a2 : Int) (a3 : ByteArray) (a4 : Rows) (a5 : Int) (a6 : Int) (a7 : ByteArray) (a8 : Rows) (a9 : Rows) (h : WL H [.sl a0, .int a1, .int a2, .str a3, .sl a4, .int a5, .int a6, .str a7, .sl a8, .sl a9] L53) {k : Int} (hk : 0 < k) (hb : k + (cntR a0 : Int) + (cntR a4 : Int) + (cntR a8 : Int) + (cntR a9 : Int) ≤ BK) : rn ⟨32, 1, 0⟩ [.int a1, .int a2, .str a3, .int a5, .int a6, .str a7, .int k, .sl a0, .sl a4, .sl a8, .sl a9] = some (0, [.int (k + (cntR a0 : Int) + (cntR a4 : Int) + (cntR a8 : Int) + (cntR a9 : Int)), .sl (mkR mt a0 (k)), .sl (mkR mt a4 (k + (cntR a0 : Int))), .sl (mkR mt a8 (k + (cntR a0 : Int) + (cntR a4 : Int))), .sl (mkR mt a9 (k + (cntR a0 : Int) + (cntR a4 : Int) + (cntR a8 : Int)))]) := by
  obtain ⟨x0, x1, x2, x3, x4, x5, x6, x7, x8, x9, hh, bx0, cx0, bx3, bx4, cx4, bx7, bx8, cx8, bx9, cx9⟩ := wl53 h
  simp only [List.cons.injEq, D.int.injEq, D.bool.injEq, D.str.injEq, D.sl.injEq, and_true] at hh
  obtain ⟨rfl, rfl, rfl, rfl, rfl, rfl, rfl, rfl, rfl, rfl⟩ := hh
  have e0 := m103_1 (k := k) bx0 cx0 (by omega) (by omega)
  skip
  have w1 : WL H [.int a1, .int a2, .str a3, .sl a4] L50 := WL.part 1 4 h
  have e1 := mT33_1 a1 a2 a3 a4 w1 (k := k + (cntR a0 : Int)) (by omega) (by omega)
  skip
  have w5 : WL H [.int a5, .int a6, .str a7, .sl a8] L50 := WL.part 5 4 h
  have e2 := mT33_1 a5 a6 a7 a8 w5 (k := k + (cntR a0 : Int) + (cntR a4 : Int)) (by omega) (by omega)
  skip
  have e3 := m104_1 (k := k + (cntR a0 : Int) + (cntR a4 : Int) + (cntR a8 : Int)) bx9 cx9 (by omega) (by omega)
  skip
  show rn ⟨32, 1, 0⟩ _ = _
  rw [e32_1_0]
  simp only [e0, e1, e2, e3, Option.bind_some, cond_false, nth, List.getD_cons_zero, List.getD_cons_succ, D.I, D.S, D.L, D.B]
theorem h106_0 : ∀ (N : Nat) (rs : Rows), SizeOf.sizeOf rs < N → rs.length ≤ maxLen → WRs H rs L50 → ∀ k : Int, 0 < k → k + cntR rs ≤ BK → rn ⟨106, 0, 0⟩ [.sl (mkR mt rs k), .int k] = some (0, [.int (k + cntR rs)])
  | 0, rs, hN, _, _, _, _, _ => absurd hN (Nat.not_lt_zero _)
  | N + 1, rs, hN, hl, hW, k, hk, hb => by
    show rn ⟨106, 0, 0⟩ _ = _
    rw [e106_0_0]
    have hf := held_loop (mt := mt) (F := fun i k' => rn ⟨106, 0, 1⟩ [.sl (mkR mt rs k), .int k', .int (i : Int)]) (rs := rs) hk hb (fun i hi k hrow hk hb => by
      have hw := WRs_mem hW (List.getElem_mem hi)
      obtain ⟨a0, a1, a2, a3, hr, b2, b3, c3⟩ := wl50 hw
      rw [hr] at hrow hb ⊢
      have em : mkL mt [.int a0, .int a1, .str a2, .sl a3] k = [.int (k), .int (k + 1), .str (mt (k + 1 + 1)), .sl (mkR mt a3 (k + 1 + 1 + 1))] := by simp only [mkL, mkD, cntD, Int.natCast_one]
      have ek : k + ((cntL [.int a0, .int a1, .str a2, .sl a3] : Nat) : Int) = k + 1 + 1 + 1 + (cntR a3 : Int) := by simp only [cntL, cntD]; omega
      rw [em] at hrow
      rw [ek] at hb ⊢
      have w0 : IntKind.i64.wrap (k + 1) = k + 1 := wrap_k (by omega) (by omega)
      have w1 : IntKind.i64.wrap (k + 1 + 1) = k + 1 + 1 := wrap_k (by omega) (by omega)
      have t2 := mt_ok (k := k + 1 + 1) (by omega) (by omega)
      have w2 : IntKind.i64.wrap (k + 1 + 1 + 1) = k + 1 + 1 + 1 := wrap_k (by omega) (by omega)
      have s3 := h106_0 N a3 (by have h1 := size_row (r := rs[i]) (rs := rs) (List.getElem_mem hi); rw [hr] at h1; simp only [List.cons.sizeOf_spec, D.sl.sizeOf_spec] at h1 hN; omega) b3 c3 (k + 1 + 1 + 1) (by omega) (by omega)
      skip
      have n3 := int_lt_zero (show 0 < k + 1 + 1 + 1 + (cntR a3 : Int) by omega)
      rw [e106_0_1]
      simp only [mkR_len, Int.toNat_natCast, hrow, inbN, hi, decide_true, cond_true, Int.ofNat_lt, Bool.not_true, cond_false, nth, List.getD_cons_zero, List.getD_cons_succ, D.I, D.S, D.L, D.B, w0, w1, t2, w2, s3, n3, Option.bind_some, wrap_succ hi hl]) (fun k' => by
      rw [e106_0_1]
      simp [mkR_len])
    rw [Int.natCast_zero] at hf
    simp only [hf, Option.bind_some, Nat.beq_refl, cond_true, nth, List.getD_cons_zero, List.getD_cons_succ, D.I, D.S, D.L, D.B]
theorem hT34_0 (a0 : Int) (a1 : Int) (a2 : ByteArray) (a3 : Rows) (h : WL H [.int a0, .int a1, .str a2, .sl a3] L50) {k : Int} (hk : 0 < k) (hb : k + (cntR a3 : Int) ≤ BK) : rn ⟨34, 0, 0⟩ [.int a0, .int a1, .str a2, .sl (mkR mt a3 (k)), .int k] = some (0, [.int (k + (cntR a3 : Int))]) := by
  obtain ⟨x0, x1, x2, x3, hh, bx2, bx3, cx3⟩ := wl50 h
  simp only [List.cons.injEq, D.int.injEq, D.bool.injEq, D.str.injEq, D.sl.injEq, and_true] at hh
  obtain ⟨rfl, rfl, rfl, rfl⟩ := hh
  have e0 := h106_0 _ a3 (Nat.lt_succ_self _) bx3 cx3 (k) (by omega) (by omega)
  skip
  have n0 := int_lt_zero (show 0 < k + (cntR a3 : Int) by omega)
  show rn ⟨34, 0, 0⟩ _ = _
  rw [e34_0_0]
  simp only [e0, n0, Option.bind_some, cond_false, nth, List.getD_cons_zero, List.getD_cons_succ, D.I, D.S, D.L, D.B]
theorem m51_1 {rs : Rows} (hl : rs.length ≤ maxLen) (hW : WRs H rs L3) {k : Int} (hk : 0 < k) (hb : k + cntR rs ≤ BK) : rn ⟨51, 1, 0⟩ [.int k, .sl rs] = some (0, [.int (k + cntR rs), .sl (mkR mt rs k)]) := by
  show rn ⟨51, 1, 0⟩ _ = _
  rw [e51_1_0]
  have hf := mark_loop (mt := mt) (F := fun i k y => rn ⟨51, 1, 1⟩ [.int k, .int (i : Int), .sl y]) (rs := rs) hk hb (fun i hi k y hyl hy hk hb => by
    have hw := WRs_mem hW (List.getElem_mem hi)
    obtain ⟨a0, hr⟩ := wl3 hw
    have hiy : i < y.length := by omega
    rw [hr] at hy hb ⊢
    have em : mkL mt [.int a0] k = [.int (k)] := by simp only [mkL, mkD, cntD, Int.natCast_one]
    have ek : k + ((cntL [.int a0] : Nat) : Int) = k + 1 := by simp only [cntL, cntD]; omega
    rw [em]
    rw [ek] at hb ⊢
    have w0 : IntKind.i64.wrap (k + 1) = k + 1 := wrap_k (by omega) (by omega)
    rw [e51_1_1]
    simp only [Int.toNat_natCast, over_row_two hiy, over_row_at hiy, over_row_len hiy, hyl, hy, inbN, hi, decide_true, cond_true, Int.ofNat_lt, over, nth, List.getD_cons_zero, List.getD_cons_succ, D.I, D.S, D.L, D.B, w0, Option.bind_some, wrap_succ hi hl]) (fun k y hyl => by
    rw [e51_1_1]
    simp [hyl])
  rw [Int.natCast_zero] at hf
  simp only [hf, Option.bind_some, Nat.beq_refl, cond_true, nth, List.getD_cons_zero, List.getD_cons_succ, D.I, D.S, D.L, D.B]
theorem m110_1 {rs : Rows} (hl : rs.length ≤ maxLen) (hW : WRs H rs L186) {k : Int} (hk : 0 < k) (hb : k + cntR rs ≤ BK) : rn ⟨110, 1, 0⟩ [.int k, .sl rs] = some (0, [.int (k + cntR rs), .sl (mkR mt rs k)]) := by
  show rn ⟨110, 1, 0⟩ _ = _
  rw [e110_1_0]
  have hf := mark_loop (mt := mt) (F := fun i k y => rn ⟨110, 1, 1⟩ [.int k, .int (i : Int), .sl y]) (rs := rs) hk hb (fun i hi k y hyl hy hk hb => by
    have hw := WRs_mem hW (List.getElem_mem hi)
    obtain ⟨a0, a1, hr, b1, c1⟩ := wl186 hw
    have hiy : i < y.length := by omega
    rw [hr] at hy hb ⊢
    have em : mkL mt [.int a0, .sl a1] k = [.int (k), .sl (mkR mt a1 (k + 1))] := by simp only [mkL, mkD, cntD, Int.natCast_one]
    have ek : k + ((cntL [.int a0, .sl a1] : Nat) : Int) = k + 1 + (cntR a1 : Int) := by simp only [cntL, cntD]; omega
    rw [em]
    rw [ek] at hb ⊢
    have w0 : IntKind.i64.wrap (k + 1) = k + 1 := wrap_k (by omega) (by omega)
    have s1 := m51_1 (k := k + 1) b1 c1 (by omega) (by omega)
    skip
    rw [e110_1_1]
    simp only [Int.toNat_natCast, over_row_two hiy, over_row_at hiy, over_row_len hiy, hyl, hy, inbN, hi, decide_true, cond_true, Int.ofNat_lt, over, nth, List.getD_cons_zero, List.getD_cons_succ, D.I, D.S, D.L, D.B, w0, s1, Option.bind_some, wrap_succ hi hl]) (fun k y hyl => by
    rw [e110_1_1]
    simp [hyl])
  rw [Int.natCast_zero] at hf
  simp only [hf, Option.bind_some, Nat.beq_refl, cond_true, nth, List.getD_cons_zero, List.getD_cons_succ, D.I, D.S, D.L, D.B]
theorem m51_2 {rs : Rows} (hl : rs.length ≤ maxLen) (hW : WRs H rs L3) {k : Int} (hk : 0 < k) (hb : k + cntR rs ≤ BK) : rn ⟨51, 2, 0⟩ [.int k, .sl rs] = some (0, [.int (k + cntR rs), .sl (mkR mt rs k)]) := by
  show rn ⟨51, 2, 0⟩ _ = _
  rw [e51_2_0]
  have hf := mark_loop (mt := mt) (F := fun i k y => rn ⟨51, 2, 1⟩ [.int k, .int (i : Int), .sl y]) (rs := rs) hk hb (fun i hi k y hyl hy hk hb => by
    have hw := WRs_mem hW (List.getElem_mem hi)
    obtain ⟨a0, hr⟩ := wl3 hw
    have hiy : i < y.length := by omega
    rw [hr] at hy hb ⊢
    have em : mkL mt [.int a0] k = [.int (k)] := by simp only [mkL, mkD, cntD, Int.natCast_one]
    have ek : k + ((cntL [.int a0] : Nat) : Int) = k + 1 := by simp only [cntL, cntD]; omega
    rw [em]
    rw [ek] at hb ⊢
    have w0 : IntKind.i64.wrap (k + 1) = k + 1 := wrap_k (by omega) (by omega)
    rw [e51_2_1]
    simp only [Int.toNat_natCast, over_row_two hiy, over_row_at hiy, over_row_len hiy, hyl, hy, inbN, hi, decide_true, cond_true, Int.ofNat_lt, over, nth, List.getD_cons_zero, List.getD_cons_succ, D.I, D.S, D.L, D.B, w0, Option.bind_some, wrap_succ hi hl]) (fun k y hyl => by
    rw [e51_2_1]
    simp [hyl])
  rw [Int.natCast_zero] at hf
  simp only [hf, Option.bind_some, Nat.beq_refl, cond_true, nth, List.getD_cons_zero, List.getD_cons_succ, D.I, D.S, D.L, D.B]
theorem mT50_1 (a0 : Rows) (a1 : Int) (a2 : Int) (a3 : ByteArray) (a4 : Rows) (a5 : Rows) (h : WL H [.sl a0, .int a1, .int a2, .str a3, .sl a4, .sl a5] L72) {k : Int} (hk : 0 < k) (hb : k + (cntR a0 : Int) + (cntR a4 : Int) + (cntR a5 : Int) ≤ BK) : rn ⟨50, 1, 0⟩ [.int a1, .int a2, .str a3, .int k, .sl a0, .sl a4, .sl a5] = some (0, [.int (k + (cntR a0 : Int) + (cntR a4 : Int) + (cntR a5 : Int)), .sl (mkR mt a0 (k)), .sl (mkR mt a4 (k + (cntR a0 : Int))), .sl (mkR mt a5 (k + (cntR a0 : Int) + (cntR a4 : Int)))]) := by
  obtain ⟨x0, x1, x2, x3, x4, x5, hh, bx0, cx0, bx3, bx4, cx4, bx5, cx5⟩ := wl72 h
  simp only [List.cons.injEq, D.int.injEq, D.bool.injEq, D.str.injEq, D.sl.injEq, and_true] at hh
  obtain ⟨rfl, rfl, rfl, rfl, rfl, rfl⟩ := hh
  have e0 := m103_1 (k := k) bx0 cx0 (by omega) (by omega)
  skip
  have w1 : WL H [.int a1, .int a2, .str a3, .sl a4] L50 := WL.part 1 4 h
  have e1 := mT33_1 a1 a2 a3 a4 w1 (k := k + (cntR a0 : Int)) (by omega) (by omega)
  skip
  have e2 := m51_2 (k := k + (cntR a0 : Int) + (cntR a4 : Int)) bx5 cx5 (by omega) (by omega)
  skip
  show rn ⟨50, 1, 0⟩ _ = _
  rw [e50_1_0]
  simp only [e0, e1, e2, Option.bind_some, cond_false, nth, List.getD_cons_zero, List.getD_cons_succ, D.I, D.S, D.L, D.B]
theorem mT41_1 (a0 : Int) (a1 : Rows) (a2 : Rows) (a3 : Int) (a4 : Int) (a5 : ByteArray) (a6 : Rows) (a7 : Rows) (h : WL H [.int a0, .sl a1, .sl a2, .int a3, .int a4, .str a5, .sl a6, .sl a7] L74) {k : Int} (hk : 0 < k) (hb : k + (cntR a1 : Int) + (cntR a2 : Int) + (cntR a6 : Int) + (cntR a7 : Int) ≤ BK) : rn ⟨41, 1, 0⟩ [.int a0, .int a3, .int a4, .str a5, .int k, .sl a1, .sl a2, .sl a6, .sl a7] = some (0, [.int (k + (cntR a1 : Int) + (cntR a2 : Int) + (cntR a6 : Int) + (cntR a7 : Int)), .sl (mkR mt a1 (k)), .sl (mkR mt a2 (k + (cntR a1 : Int))), .sl (mkR mt a6 (k + (cntR a1 : Int) + (cntR a2 : Int))), .sl (mkR mt a7 (k + (cntR a1 : Int) + (cntR a2 : Int) + (cntR a6 : Int)))]) := by
  obtain ⟨x0, x1, x2, x3, x4, x5, x6, x7, hh, bx1, cx1, bx2, cx2, bx5, bx6, cx6, bx7, cx7⟩ := wl74 h
  simp only [List.cons.injEq, D.int.injEq, D.bool.injEq, D.str.injEq, D.sl.injEq, and_true] at hh
  obtain ⟨rfl, rfl, rfl, rfl, rfl, rfl, rfl, rfl⟩ := hh
  have e0 := m110_1 (k := k) bx1 cx1 (by omega) (by omega)
  skip
  have w2 : WL H [.sl a2, .int a3, .int a4, .str a5, .sl a6, .sl a7] L72 := WL.part 2 6 h
  have e1 := mT50_1 a2 a3 a4 a5 a6 a7 w2 (k := k + (cntR a1 : Int)) (by omega) (by omega)
  skip
  show rn ⟨41, 1, 0⟩ _ = _
  rw [e41_1_0]
  simp only [e0, e1, Option.bind_some, cond_false, nth, List.getD_cons_zero, List.getD_cons_succ, D.I, D.S, D.L, D.B]
theorem mT42_1 (a0 : Rows) (a1 : Int) (a2 : Int) (a3 : ByteArray) (a4 : Rows) (a5 : Int) (a6 : Int) (a7 : ByteArray) (a8 : Rows) (a9 : Int) (h : WL H [.sl a0, .int a1, .int a2, .str a3, .sl a4, .int a5, .int a6, .str a7, .sl a8, .int a9] L67) {k : Int} (hk : 0 < k) (hb : k + (cntR a0 : Int) + (cntR a4 : Int) + (cntR a8 : Int) ≤ BK) : rn ⟨42, 1, 0⟩ [.int a1, .int a2, .str a3, .int a5, .int a6, .str a7, .int a9, .int k, .sl a0, .sl a4, .sl a8] = some (0, [.int (k + (cntR a0 : Int) + (cntR a4 : Int) + (cntR a8 : Int)), .sl (mkR mt a0 (k)), .sl (mkR mt a4 (k + (cntR a0 : Int))), .sl (mkR mt a8 (k + (cntR a0 : Int) + (cntR a4 : Int)))]) := by
  obtain ⟨x0, x1, x2, x3, x4, x5, x6, x7, x8, x9, hh, bx0, cx0, bx3, bx4, cx4, bx7, bx8, cx8⟩ := wl67 h
  simp only [List.cons.injEq, D.int.injEq, D.bool.injEq, D.str.injEq, D.sl.injEq, and_true] at hh
  obtain ⟨rfl, rfl, rfl, rfl, rfl, rfl, rfl, rfl, rfl, rfl⟩ := hh
  have e0 := m51_2 (k := k) bx0 cx0 (by omega) (by omega)
  skip
  have w1 : WL H [.int a1, .int a2, .str a3, .sl a4] L50 := WL.part 1 4 h
  have e1 := mT33_1 a1 a2 a3 a4 w1 (k := k + (cntR a0 : Int)) (by omega) (by omega)
  skip
  have w5 : WL H [.int a5, .int a6, .str a7, .sl a8] L50 := WL.part 5 4 h
  have e2 := mT33_1 a5 a6 a7 a8 w5 (k := k + (cntR a0 : Int) + (cntR a4 : Int)) (by omega) (by omega)
  skip
  show rn ⟨42, 1, 0⟩ _ = _
  rw [e42_1_0]
  simp only [e0, e1, e2, Option.bind_some, cond_false, nth, List.getD_cons_zero, List.getD_cons_succ, D.I, D.S, D.L, D.B]
theorem h52_0 {rs : Rows} (hl : rs.length ≤ maxLen) (hW : WRs H rs L3) {k : Int} (hk : 0 < k) (hb : k + cntR rs ≤ BK) : rn ⟨52, 0, 0⟩ [.sl (mkR mt rs k), .int k] = some (0, [.int (k + cntR rs)]) := by
  show rn ⟨52, 0, 0⟩ _ = _
  rw [e52_0_0]
  have hf := held_loop (mt := mt) (F := fun i k' => rn ⟨52, 0, 1⟩ [.sl (mkR mt rs k), .int k', .int (i : Int)]) (rs := rs) hk hb (fun i hi k hrow hk hb => by
    have hw := WRs_mem hW (List.getElem_mem hi)
    obtain ⟨a0, hr⟩ := wl3 hw
    rw [hr] at hrow hb ⊢
    have em : mkL mt [.int a0] k = [.int (k)] := by simp only [mkL, mkD, cntD, Int.natCast_one]
    have ek : k + ((cntL [.int a0] : Nat) : Int) = k + 1 := by simp only [cntL, cntD]; omega
    rw [em] at hrow
    rw [ek] at hb ⊢
    have w0 : IntKind.i64.wrap (k + 1) = k + 1 := wrap_k (by omega) (by omega)
    rw [e52_0_1]
    simp only [mkR_len, Int.toNat_natCast, hrow, inbN, hi, decide_true, cond_true, Int.ofNat_lt, Bool.not_true, cond_false, nth, List.getD_cons_zero, List.getD_cons_succ, D.I, D.S, D.L, D.B, w0, Option.bind_some, wrap_succ hi hl]) (fun k' => by
    rw [e52_0_1]
    simp [mkR_len])
  rw [Int.natCast_zero] at hf
  simp only [hf, Option.bind_some, Nat.beq_refl, cond_true, nth, List.getD_cons_zero, List.getD_cons_succ, D.I, D.S, D.L, D.B]
theorem hT43_0 (a0 : Rows) (a1 : Int) (a2 : Int) (a3 : ByteArray) (a4 : Rows) (a5 : Int) (a6 : Int) (a7 : ByteArray) (a8 : Rows) (a9 : Int) (h : WL H [.sl a0, .int a1, .int a2, .str a3, .sl a4, .int a5, .int a6, .str a7, .sl a8, .int a9] L67) {k : Int} (hk : 0 < k) (hb : k + (cntR a0 : Int) + (cntR a4 : Int) + (cntR a8 : Int) ≤ BK) : rn ⟨43, 0, 0⟩ [.sl (mkR mt a0 (k)), .int a1, .int a2, .str a3, .sl (mkR mt a4 (k + (cntR a0 : Int))), .int a5, .int a6, .str a7, .sl (mkR mt a8 (k + (cntR a0 : Int) + (cntR a4 : Int))), .int a9, .int k] = some (0, [.int (k + (cntR a0 : Int) + (cntR a4 : Int) + (cntR a8 : Int))]) := by
  obtain ⟨x0, x1, x2, x3, x4, x5, x6, x7, x8, x9, hh, bx0, cx0, bx3, bx4, cx4, bx7, bx8, cx8⟩ := wl67 h
  simp only [List.cons.injEq, D.int.injEq, D.bool.injEq, D.str.injEq, D.sl.injEq, and_true] at hh
  obtain ⟨rfl, rfl, rfl, rfl, rfl, rfl, rfl, rfl, rfl, rfl⟩ := hh
  have e0 := h52_0 (k := k) bx0 cx0 (by omega) (by omega)
  skip
  have n0 := int_lt_zero (show 0 < k + (cntR a0 : Int) by omega)
  have w1 : WL H [.int a1, .int a2, .str a3, .sl a4] L50 := WL.part 1 4 h
  have e1 := hT34_0 a1 a2 a3 a4 w1 (k := k + (cntR a0 : Int)) (by omega) (by omega)
  skip
  have n1 := int_lt_zero (show 0 < k + (cntR a0 : Int) + (cntR a4 : Int) by omega)
  have w5 : WL H [.int a5, .int a6, .str a7, .sl a8] L50 := WL.part 5 4 h
  have e2 := hT34_0 a5 a6 a7 a8 w5 (k := k + (cntR a0 : Int) + (cntR a4 : Int)) (by omega) (by omega)
  skip
  have n2 := int_lt_zero (show 0 < k + (cntR a0 : Int) + (cntR a4 : Int) + (cntR a8 : Int) by omega)
  show rn ⟨43, 0, 0⟩ _ = _
  rw [e43_0_0]
  simp only [e0, n0, e1, n1, e2, n2, Option.bind_some, cond_false, nth, List.getD_cons_zero, List.getD_cons_succ, D.I, D.S, D.L, D.B]
theorem h116_0 {rs : Rows} (hl : rs.length ≤ maxLen) (hW : WRs H rs L9) {k : Int} (hk : 0 < k) (hb : k + cntR rs ≤ BK) : rn ⟨116, 0, 0⟩ [.sl (mkR mt rs k), .int k] = some (0, [.int (k + cntR rs)]) := by
  show rn ⟨116, 0, 0⟩ _ = _
  rw [e116_0_0]
  have hf := held_loop (mt := mt) (F := fun i k' => rn ⟨116, 0, 1⟩ [.sl (mkR mt rs k), .int k', .int (i : Int)]) (rs := rs) hk hb (fun i hi k hrow hk hb => by
    have hw := WRs_mem hW (List.getElem_mem hi)
    obtain ⟨a0, hr, b0⟩ := wl9 hw
    rw [hr] at hrow hb ⊢
    have em : mkL mt [.str a0] k = [.str (mt (k))] := by simp only [mkL, mkD, cntD, Int.natCast_one]
    have ek : k + ((cntL [.str a0] : Nat) : Int) = k + 1 := by simp only [cntL, cntD]; omega
    rw [em] at hrow
    rw [ek] at hb ⊢
    have t0 := mt_ok (k := k) (by omega) (by omega)
    have w0 : IntKind.i64.wrap (k + 1) = k + 1 := wrap_k (by omega) (by omega)
    rw [e116_0_1]
    simp only [mkR_len, Int.toNat_natCast, hrow, inbN, hi, decide_true, cond_true, Int.ofNat_lt, Bool.not_true, cond_false, nth, List.getD_cons_zero, List.getD_cons_succ, D.I, D.S, D.L, D.B, t0, w0, Option.bind_some, wrap_succ hi hl]) (fun k' => by
    rw [e116_0_1]
    simp [mkR_len])
  rw [Int.natCast_zero] at hf
  simp only [hf, Option.bind_some, Nat.beq_refl, cond_true, nth, List.getD_cons_zero, List.getD_cons_succ, D.I, D.S, D.L, D.B]
theorem hT55_0 (a0 : Rows) (a1 : Int) (a2 : Int) (a3 : ByteArray) (a4 : Rows) (a5 : Rows) (h : WL H [.sl a0, .int a1, .int a2, .str a3, .sl a4, .sl a5] L72) {k : Int} (hk : 0 < k) (hb : k + (cntR a0 : Int) + (cntR a4 : Int) + (cntR a5 : Int) ≤ BK) : rn ⟨55, 0, 0⟩ [.sl (mkR mt a0 (k)), .int a1, .int a2, .str a3, .sl (mkR mt a4 (k + (cntR a0 : Int))), .sl (mkR mt a5 (k + (cntR a0 : Int) + (cntR a4 : Int))), .int k] = some (0, [.int (k + (cntR a0 : Int) + (cntR a4 : Int) + (cntR a5 : Int))]) := by
  obtain ⟨x0, x1, x2, x3, x4, x5, hh, bx0, cx0, bx3, bx4, cx4, bx5, cx5⟩ := wl72 h
  simp only [List.cons.injEq, D.int.injEq, D.bool.injEq, D.str.injEq, D.sl.injEq, and_true] at hh
  obtain ⟨rfl, rfl, rfl, rfl, rfl, rfl⟩ := hh
  have e0 := h116_0 (k := k) bx0 cx0 (by omega) (by omega)
  skip
  have n0 := int_lt_zero (show 0 < k + (cntR a0 : Int) by omega)
  have w1 : WL H [.int a1, .int a2, .str a3, .sl a4] L50 := WL.part 1 4 h
  have e1 := hT34_0 a1 a2 a3 a4 w1 (k := k + (cntR a0 : Int)) (by omega) (by omega)
  skip
  have n1 := int_lt_zero (show 0 < k + (cntR a0 : Int) + (cntR a4 : Int) by omega)
  have e2 := h52_0 (k := k + (cntR a0 : Int) + (cntR a4 : Int)) bx5 cx5 (by omega) (by omega)
  skip
  have n2 := int_lt_zero (show 0 < k + (cntR a0 : Int) + (cntR a4 : Int) + (cntR a5 : Int) by omega)
  show rn ⟨55, 0, 0⟩ _ = _
  rw [e55_0_0]
  simp only [e0, n0, e1, n1, e2, n2, Option.bind_some, cond_false, nth, List.getD_cons_zero, List.getD_cons_succ, D.I, D.S, D.L, D.B]
end Go.Q.S
