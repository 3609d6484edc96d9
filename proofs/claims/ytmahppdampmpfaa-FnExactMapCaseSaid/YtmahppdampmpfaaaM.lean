/- The functions of this seat, as that machine runs them. -/
import Derived.Test.YtmahppdampmpfaaaC
set_option linter.unusedVariables false
set_option linter.unusedSimpArgs false
namespace Go.Q.S
open Go Go.Q Go.Proofs
theorem r34 (vars : List ByteArray) (c : Int) (target : List ByteArray) (l : List Bnd) (hl : l.length ≤ 1048576) (hs : ∀ b ∈ l, Small b.2) : rn ⟨34, 0, 0⟩ [.sl (vars.map sRow), .int c, .sl (target.map sRow), .sl (l.map Bnd.row)] =
    if isC vars.length c = true ∧ target.length ≤ 3 then (match ofold (mapStep vars c l) target 0 with | some r => some (0, [.int r, .bool true]) | none => some (0, [.int 0, .bool false])) else some (0, [.int 0, .bool false]) := by
  show run H Try.prog _ _ = _
  rw [run_eq, g34_0_0_eq, g34_0_0]
  have hi := r73 vars.length c
  simp only [rn] at hi
  simp only [List.length_map, hi, Option.bind_some, nth, List.getD_cons_zero, List.getD_cons_succ, D.I, D.S, D.L, D.B]
  by_cases hC : isC vars.length c = true
  case neg =>
    rw [if_neg (fun h => hC h.1)]
    have : isC vars.length c = false := by simpa using hC
    rw [this]; rfl
  rw [hC]
  simp only [Bool.not_true, cond_false]
  by_cases h3 : target.length ≤ 3
  case neg =>
    rw [if_neg (fun h => h3 h.2), decide_eq_true (by omega : (3 : Int) < (target.length : Int))]; rfl
  rw [if_pos ⟨trivial, h3⟩, decide_eq_false (by omega : ¬ (3 : Int) < (target.length : Int))]
  simp only [cond_false]
  have hf := fold_loop (F := fun i s => rn ⟨34, 0, 1⟩ [.sl (vars.map sRow), .int c, .sl (l.map Bnd.row), .int s, .sl (target.map sRow), .int ((target.map sRow)).length, .int (i : Int)]) (xs := target) (mapStep vars c l) (A := fun s => some (0, [.int s])) (B := some (1, [.int 0])) (fun i hi s => ?_) (fun s => ?_) 0
  · simp only [rn, Int.natCast_zero, List.length_map] at hf
    rw [hf]
    cases ofold (mapStep vars c l) target 0 <;> rfl
  · simp only [rn]
    rw [run_eq, g34_0_1_eq, g34_0_1]
    have hb := r74 l hl target[i]
    simp only [rn] at hb
    simp only [Int.toNat_natCast, rowAt_map hi, sRow, List.length_map, inbN, hi, Int.ofNat_lt, decide_true, cond_true, nth, List.getD_cons_zero, List.getD_cons_succ, D.I, D.S, D.L, D.B, wrap_succ hi (by unfold maxLen; omega)]
    rw [hb]
    unfold mapStep
    cases hq : bnd l target[i] with
    | none => rfl
    | some t =>
      obtain ⟨b, hbm, rfl⟩ := bnd_mem hq
      have h1 := r77 vars c
      have h2 := r76 (caseS vars c) (caseS_len vars c) (caseS_small vars c) b.2 (hs b hbm)
      have h3 := r75 (aS (caseS vars c) b.2) (aS_small (caseS_small vars c) b.2 (hs b hbm))
      have h4 := r78 (rW (aS (caseS vars c) b.2))
      simp only [rn, sRow] at h1 h2 h3 h4
      simp only [h1, h2, h3, h4, Option.bind_some, nth, List.getD_cons_zero, List.getD_cons_succ, D.I, D.S, D.L, D.B, Bool.not_true, cond_false]
      unfold inst
      cases isW (rW (aS (caseS vars c) b.2)) <;> rfl
  · simp only [rn]
    rw [run_eq, g34_0_1_eq, g34_0_1]
    simp
theorem r31 (vars : List ByteArray) (c : Int) (target : List ByteArray) (l : List Bnd) (hl : l.length ≤ 1048576) (hs : ∀ b ∈ l, Small b.2) : rn ⟨31, 0, 0⟩ [.sl (vars.map sRow), .int c, .sl (target.map sRow), .sl (l.map Bnd.row)] =
    if isC vars.length c = true ∧ target.length ≤ 3 then (match ofold (mapStep vars c l) target 0 with | some r => some (0, [.int r, .bool true]) | none => some (0, [.int 0, .bool false])) else some (0, [.int 0, .bool false]) := by
  show run H Try.prog _ _ = _
  rw [run_eq, g31_0_0_eq, g31_0_0]
  have hi := r68 vars.length
  have hj := r42 c 0 (IntKind.i64.wrap (cnt4 vars.length - 1))
  rw [wcnt] at hj
  simp only [rn] at hi hj
  simp only [List.length_map, hi, hj, Option.bind_some, nth, List.getD_cons_zero, List.getD_cons_succ, D.I, D.S, D.L, D.B]
  by_cases hC : isC vars.length c = true
  case neg =>
    rw [if_neg (fun h => hC h.1)]
    have : isC vars.length c = false := by simpa using hC
    rw [this]; rfl
  rw [hC]
  simp only [Bool.not_true, cond_false]
  by_cases h3 : target.length ≤ 3
  case neg =>
    rw [if_neg (fun h => h3 h.2), decide_eq_true (by omega : (3 : Int) < (target.length : Int))]; rfl
  rw [if_pos ⟨trivial, h3⟩, decide_eq_false (by omega : ¬ (3 : Int) < (target.length : Int))]
  simp only [cond_false]
  have hf := fold_loop (F := fun i s => rn ⟨31, 0, 1⟩ [.sl (vars.map sRow), .int c, .sl (target.map sRow), .sl (l.map Bnd.row), .int s, .int (i : Int)]) (xs := target) (mapStep vars c l) (A := fun s => some (0, [.int s])) (B := some (1, [.int 0])) (fun i hi s => ?_) (fun s => ?_) 0
  · simp only [rn, Int.natCast_zero, List.length_map] at hf
    rw [hf]
    cases ofold (mapStep vars c l) target 0 <;> rfl
  · simp only [rn]
    rw [run_eq, g31_0_1_eq, g31_0_1]
    have hb := r69 l hl hs target[i]
    simp only [rn] at hb
    simp only [Int.toNat_natCast, rowAt_map hi, sRow, List.length_map, inbN, hi, Int.ofNat_lt, decide_true, cond_true, nth, List.getD_cons_zero, List.getD_cons_succ, D.I, D.S, D.L, D.B, wrap_succ hi (by unfold maxLen; omega)]
    rw [hb]
    unfold mapStep
    cases hq : bnd l target[i] with
    | none =>
      have h1 := r70 vars tm0 (small_word ..) c
      simp only [rn, sRow] at h1
      have h1' : run H Try.prog ⟨70, 0, 0⟩ [.sl (vars.map sRow), .int 0, .int 0, .str ⟨#[]⟩, .sl [], .int c] = _ := h1
      simp only [Option.bind_some, nth, List.getD_cons_zero, List.getD_cons_succ, D.I, D.S, D.L, D.B]
      rw [h1']
      rfl
    | some t =>
      obtain ⟨b, hbm, rfl⟩ := bnd_mem hq
      have h1 := r70 vars b.2 (hs b hbm) c
      have h4 := r71 (inst vars b.2 c)
      simp only [rn, sRow] at h1 h4
      simp only [h1, h4, Option.bind_some, nth, List.getD_cons_zero, List.getD_cons_succ, D.I, D.S, D.L, D.B, Bool.not_true, cond_false]
      have e : IntKind.i64.wrap (s * 4) = IntKind.i64.wrap (4 * s) := by rw [Int.mul_comm]
      rw [e]
      cases isW (inst vars b.2 c) <;> rfl
  · simp only [rn]
    rw [run_eq, g31_0_1_eq, g31_0_1]
    simp
end Go.Q.S
