/- The functions of this seat, as that machine runs them. -/
import Derived.Test.YtboolhhmagjadaacG
import Derived.Test.YtboolhhmagjadaacK
import Derived.Test.YtboolhhmagjadaaM7
import Derived.Test.YtboolhhmagjadaaQC
set_option linter.unusedVariables false
set_option linter.unusedSimpArgs false
namespace Go.Q.S
open Go Go.Q Go.Proofs

def RL : List (Nat × Nat) := [(3, 3), (9, 9), (43, 43), (43, 50), (46, 46), (46, 53), (50, 43), (50, 50), (53, 46), (53, 53), (62, 62), (62, 72), (64, 64), (64, 74), (67, 67), (72, 62), (72, 72), (74, 64), (74, 74), (111, 111), (111, 177), (177, 111), (177, 177), (185, 185), (185, 186), (186, 185), (186, 186)]
theorem simR : simB H RL = true := by kernel_rfl
theorem cv {ds : List D} {c c' : List CT} (h : WL H ds c) (hc : layB RL c c' = true) : WL H ds c' := WL.conv simR ds h hc
theorem bd20 : Bd 1048576 := by unfold Bd; omega
theorem sub_le {b : Int} {n : Nat} (h : ¬ sub b n < 0) : (n : Int) ≤ b ∧ sub b n = b - n := by unfold sub at *; split at h <;> simp_all
theorem tmTy : TmTy H 50 [.int .i64, .int .i64, .str, .sl 50] := ⟨rfl, _, ty50, rfl⟩
theorem wide64 : ∀ e ti, H.ty e = some ti → ti.lay.length ≤ 64 := fun e ti h => by
  have hq : tyL.all (fun p => Nat.ble p.2.lay.length 64) = true := by kernel_rfl
  have := List.all_eq_true.1 hq _ (lookN_mem (show lookN tyL e = some ti from h))
  exact Nat.le_of_ble_eq_true this
theorem r99 (vars : List ByteArray) (t : Tm) (h : Small t) (cs : Rows) (c : Int) : rn ⟨99, 0, 0⟩ [.sl (vars.map sRow), .int t.k, .int t.n, .str t.s, .sl (t.as.map Tm.row), .sl cs, .int c] = some (0, [.int (instR vars t c).k, .int (instR vars t c).n, .str (instR vars t c).s, .bool (isC vars.length c), .sl ((instR vars t c).as.map Tm.row)]) := by
  show run H Try.prog _ _ = _
  rw [run_eq, g99_0_0_eq, g99_0_0]
  have e1 := r82 vars.length c
  have e2 := r24 vars c
  have e3 := r62 (caseS vars c) (caseS_len vars c) (caseS_small vars c) t h
  have e4 := r156 _ (aS_small (caseS_small vars c) t h)
  simp only [rn] at e1 e2 e3 e4
  rw [List.length_map, e1]
  simp only [Option.bind_some, nth, List.getD_cons_zero, List.getD_cons_succ, D.I, D.S, D.L, D.B]
  unfold instR
  cases hc : isC vars.length c with
  | false => simp only [Bool.not_false, cond_true] <;> rfl
  | true => simp only [Bool.not_true, cond_false, e2, e3, e4, Option.bind_some, nth, List.getD_cons_zero, List.getD_cons_succ, D.I, D.S, D.L, D.B, if_true] <;> rfl
theorem r95 (vars : List ByteArray) (t : Tm) (h : Small t) (cs : Rows) (c : Int) : rn ⟨95, 0, 0⟩ [.sl (vars.map sRow), .int t.k, .int t.n, .str t.s, .sl (t.as.map Tm.row), .sl cs, .int c] = some (0, [.int (instR vars t c).k, .int (instR vars t c).n, .str (instR vars t c).s, .bool (isC vars.length c), .sl ((instR vars t c).as.map Tm.row)]) := by
  show run H Try.prog _ _ = _
  rw [run_eq, g95_0_0_eq, g95_0_0]
  have e1 := r17 vars.length
  have e2 := r153 vars t h c
  have e3 := fun a b => r84 c a b
  simp only [rn] at e1 e2 e3
  rw [List.length_map, e1]
  simp only [Option.bind_some, nth, List.getD_cons_zero, List.getD_cons_succ, D.I, D.S, D.L, D.B, e3, wcnt]
  unfold instR
  cases hc : isC vars.length c with
  | false => simp only [Bool.not_false, cond_true] <;> rfl
  | true => simp only [Bool.not_true, cond_false, e2, Option.bind_some, nth, List.getD_cons_zero, List.getD_cons_succ, D.I, D.S, D.L, D.B, if_true] <;> rfl
theorem r29 (vars : List ByteArray) (l : Tm) (t : Tm) (h : Small t) (gs : Rows) (c : Int) : rn ⟨29, 0, 0⟩ [.sl (vars.map sRow), .int l.k, .int l.n, .str l.s, .sl (l.as.map Tm.row), .int t.k, .int t.n, .str t.s, .sl (t.as.map Tm.row), .sl gs, .int c] = some (0, [.int (instR vars t c).k, .int (instR vars t c).n, .str (instR vars t c).s, .sl ((instR vars t c).as.map Tm.row)]) := by
  show run H Try.prog _ _ = _
  rw [run_eq, g29_0_0_eq, g29_0_0]
  have e1 := r99 vars t h [] c
  simp only [rn] at e1
  simp only [e1, Option.bind_some, nth, List.getD_cons_zero, List.getD_cons_succ, D.I, D.S, D.L, D.B]
theorem r27 (vars : List ByteArray) (l : Tm) (t : Tm) (h : Small t) (gs : Rows) (c : Int) : rn ⟨27, 0, 0⟩ [.sl (vars.map sRow), .int l.k, .int l.n, .str l.s, .sl (l.as.map Tm.row), .int t.k, .int t.n, .str t.s, .sl (t.as.map Tm.row), .sl gs, .int c] = some (0, [.int (instR vars t c).k, .int (instR vars t c).n, .str (instR vars t c).s, .sl ((instR vars t c).as.map Tm.row)]) := by
  show run H Try.prog _ _ = _
  rw [run_eq, g27_0_0_eq, g27_0_0]
  have e1 := r95 vars t h [] c
  simp only [rn] at e1
  simp only [e1, Option.bind_some, nth, List.getD_cons_zero, List.getD_cons_succ, D.I, D.S, D.L, D.B]
end Go.Q.S
