/- For all arguments the law FnExactEqualVerdict answers true and leaves its arguments as they were; no condition. -/
import Derived.Test.YtmahppdampmpfaaZ2
import Derived.Test.YtmahppdampmpfaaQC
import Derived.Test.YtmahppdampmpfaaRows
import Derived.WalkKit
import Derived.ProofKit
import Derived.OpenShut
import Derived.ShutString
import Derived.ChangeOld
import Derived.Below
import Derived.SizedLaws
set_option linter.unusedVariables false
set_option linter.unusedSimpArgs false
namespace Go.Q.S
open Go Go.Q Go.Proofs
def RL : List (Nat × Nat) := [(3, 3), (9, 9), (26, 26), (26, 31), (31, 26), (31, 31), (38, 38), (38, 43), (43, 38), (43, 43), (48, 48), (48, 53), (53, 48), (53, 53), (69, 69), (69, 74), (74, 69), (74, 74), (90, 90), (90, 124), (95, 95), (95, 129), (103, 103), (103, 109), (109, 103), (109, 109), (124, 90), (124, 124), (129, 95), (129, 129)]
theorem simR : simB H RL = true := by kernel_rfl
theorem cv {ds : List D} {c c' : List CT} (h : WL H ds c) (hc : layB RL c c' = true) : WL H ds c' := WL.conv simR ds h hc
theorem fits : Fits Try.prog H where
  ty := tyOK_of (l := tyL) (fun _ => rfl) (by kernel_rfl)
  eq := eqOK_of (l := eqL) (fun _ => rfl) (by kernel_rfl)
  mixed := Try.checked.mixed
  names := names_of (by kernel_rfl)
  ext := fun f g h => by simp [H] at h
theorem bd20 : Bd 1048576 := by unfold Bd; omega
theorem sub_le {b : Int} {n : Nat} (h : ¬ sub b n < 0) : (n : Int) ≤ b ∧ sub b n = b - n := by unfold sub at *; split at h <;> simp_all
theorem law9 {ds es : List D} (h : WL H ds L69) (h' : WL H es L69) : rn ⟨9, 0, 0⟩ (ds ++ es) = some (0, [.bool true]) := by
  have g0 := h
  have g0' := h'
  obtain ⟨a0, a1, a2, a3, rfl, b1, c1⟩ := wl69 h
  obtain ⟨y0, y1, y2, y3, rfl, by1, cy1⟩ := wl69 h'
  show run H Try.prog ⟨9, 0, 0⟩ [D.int a0, D.sl a1, D.int a2, D.int a3, D.int y0, D.sl y1, D.int y2, D.int y3] = _
  rw [run_eq, g9_0_0_eq, g9_0_0]
  have e1 := s37 g0 bd20
  simp only [List.cons_append, List.nil_append, rn] at e1
  simp only [e1, Option.bind_some, nth, List.getD_cons_zero, List.getD_cons_succ, D.I, D.S, D.L, D.B]
  by_cases n1 : sub 1048576 (szL [D.int a0, D.sl a1, D.int a2, D.int a3]) < 0
  · simp only [decide_eq_true n1, cond_true]
  have e2 := s37 g0' (Bd.sub bd20 (szL [D.int a0, D.sl a1, D.int a2, D.int a3]))
  simp only [List.cons_append, List.nil_append, rn] at e2
  simp only [decide_eq_false n1, cond_false, e2, Option.bind_some, nth, List.getD_cons_zero, List.getD_cons_succ, D.I, D.S, D.L, D.B]
  by_cases n2 : sub (sub 1048576 (szL [D.int a0, D.sl a1, D.int a2, D.int a3])) (szL [D.int y0, D.sl y1, D.int y2, D.int y3]) < 0
  · simp only [decide_eq_true n2, cond_true]
  obtain ⟨m1, k1⟩ := sub_le n1
  obtain ⟨m2, k2⟩ := sub_le n2
  have x1 := c39 (by omega) g0
  have x2 := c39 (by omega) g0'
  have i0 : WL H [D.int a0, D.sl a1, D.int a2, D.int a3] L74 := cv g0 (by kernel_rfl)
  have i1 : WL H [D.int y0, D.sl y1, D.int y2, D.int y3] L74 := cv g0' (by kernel_rfl)
  have x3 := q38 i0 i1
  have i2 : WL H [D.int a0, D.sl a1, D.int a2, D.int a3] L74 := cv g0 (by kernel_rfl)
  have i3 : WL H [D.int y0, D.sl y1, D.int y2, D.int y3] L74 := cv g0' (by kernel_rfl)
  have x4 := q40 i2 i3
  have i4 : WL H [D.int a0, D.sl a1, D.int a2, D.int a3] L74 := cv g0 (by kernel_rfl)
  have i5 : WL H [D.int a0, D.sl a1, D.int a2, D.int a3] L74 := cv g0 (by kernel_rfl)
  have x5 := q41 i4 i5
  have i6 : WL H [D.int y0, D.sl y1, D.int y2, D.int y3] L74 := cv g0' (by kernel_rfl)
  have i7 : WL H [D.int y0, D.sl y1, D.int y2, D.int y3] L74 := cv g0' (by kernel_rfl)
  have x6 := q41 i6 i7
  simp only [List.cons_append, List.nil_append, rn, eqb_refl] at x1 x2 x3 x4 x5 x6
  simp only [decide_eq_false n2, cond_false, x1, x2, x3, x4, x5, x6, Option.bind_some, nth, List.getD_cons_zero, List.getD_cons_succ, D.I, D.S, D.L, D.B, beq_self_eq_true, Bool.not_true, cond_false]
end Go.Q.S
namespace Go.Q.S
open Go Go.Q Go.Proofs
theorem ki9 : H.ki ⟨9, 0, 0⟩ = some ⟨[(0, argSh ((H.ty 69).getD default)), (1, argSh ((H.ty 69).getD default))], [], [⟨.ret, [(0, .bool)], []⟩]⟩ := by kernel_rfl
theorem plain9 : plainB Try.prog H [3, 9, 24, 26, 46, 48, 56, 67, 69, 93, 103, 129] = true := by kernel_rfl
end Go.Q.S
namespace Go.Proofs.Ytmahppdampmpfaa.fnExactEqualVerdict
open Go Go.Q Go.Q.S
open Go.ChangeShapes Go.WideShapes Go.ChangeAt Go.RowKit
open Go.ChangeMaps (open_string shut_string)
theorem own : ownKnob Try.prog.godebug = none := by kernel_rfl
theorem laid : laidOutB Try.prog = true := by kernel_rfl
set_option maxRecDepth 100000 in
theorem lifted (os : Os) (started : os.Started) (H : Type) (enc : TypeId × Value → H) :
    ReturnsInHanded {} Try.checked os 9 .any (Rows.fnExactEqualVerdictSpec.pre6 enc Try.prog Try.f9 Rows.fnExactEqualVerdictRow.domain false) (Rows.fnExactEqualVerdictSpec.post enc Try.prog Try.f9 false true false false) := by
  refine returnsInHanded_of_change_sized (C := Try.checked) own started (by kernel_rfl) Try.func9
    (ChangeSpec.witness6 (enc := enc) (C := Try.checked) false ⟨#[], #[.agg #[.int .i64 0, .slice none 0 0, .int .i64 0, .int .i64 0], .agg #[.int .i64 0, .slice none 0 0, .int .i64 0, .int .i64 0]], []⟩ 8 (by kernel_rfl) (by kernel_rfl) (by kernel_rfl) (by kernel_rfl)) ?_
  intro W base args ds gs before hval0 hW hcnd hsz0 _
  have hval : ∀ (j : Nat) t v, Try.f9.params[j]? = some t → args[j]? = some v → Value.okWide Try.prog W .any base t v := hval0
  have hW' := hW
  obtain ⟨p, q, hA0, hV, rfl, hfz, hnd⟩ := hW
  have hA : DataW.TrodAll enc Try.prog W 0 (fun _ => true) true Try.f9.params.toList args.toList ds p := hA0
  rw [Try.params9] at hA hval
  obtain ⟨rfl, rfl⟩ := trodVars_none hV
  have hB := hA
  obtain ⟨v0, v1, d0, d1, p0, p1, rfl, rfl, hp, h0, h1⟩ := trodAll_two hA
  obtain ⟨dss, ha, hlen, hwl⟩ := args_data (H := Go.Q.S.H) fits.ty plain9 _ _ _ _ hB (by decide) (fun j t v h h' => hval j t v (by simpa using h) (by simpa using h'))
  obtain ⟨x0, x1, rfl⟩ : ∃ x0 x1, dss = [x0, x1] := by
    match dss, hlen with
    | [x0, x1], _ => exact ⟨x0, x1, rfl⟩
  obtain ⟨t0, e0, w0⟩ := hwl 0 _ _ rfl rfl
  rw [ty69] at e0
  obtain rfl := Option.some.inj e0
  obtain ⟨t1, e1, w1⟩ := hwl 1 _ _ rfl rfl
  rw [ty69] at e1
  obtain rfl := Option.some.inj e1
  refine (law_calls fits Try.func9 (by kernel_rfl) ki9 rfl rfl ha (b := true) (by simpa using law9 w0 w1)).mono fun e W' ⟨he, bel⟩ => ?_
  subst he
  exact ⟨_, rfl, _, _, _, [], p, _, hW', trodAll_mk1 (shut_bool Try.underlying4 _), trodAll_below laid _ _ _ _ (read_of (by kernel_rfl)) hB bel (fun z hz => hW'.lt z (by simp [hz])), rfl, bel.frame _, fun h => by cases h⟩
theorem over : Rows.fnExactEqualVerdictRow.holds Try.pinned (OpenSpec.ofChange Rows.fnExactEqualVerdictSpec) :=
  OpenClaim.holds_of_wide 9 Try.f9 rfl rfl rfl rfl rfl rfl rfl ⟨rfl, rfl, rfl, rfl, rfl⟩ rfl rfl rfl rfl rfl (by kernel_rfl) Try.func9 (by kernel_rfl)
    (of_decide_eq_true (by kernel_rfl)) (by unfold Func.isWrapper; first | (rw [if_pos (by decide +kernel)]; kernel_rfl) | (rw [if_neg (by decide +kernel)]; exact ⟨rfl, rfl⟩))
    (fun os started H enc _ => lifted os started H enc)
theorem proved : Rows.FnExactEqualVerdictSaid := over
end Go.Proofs.Ytmahppdampmpfaa.fnExactEqualVerdict
namespace Go.Proofs.Ytmahppdampmpfaa
/-- The row, under a short name, for the claim. -/
theorem fnExactEqualVerdict_holds : Rows.FnExactEqualVerdictSaid := fnExactEqualVerdict.proved
end Go.Proofs.Ytmahppdampmpfaa
