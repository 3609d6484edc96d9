/- For all arguments the law FnExactEqualSession answers true and leaves its arguments as they were; no condition. -/
import Derived.Test.YtboolhhmagjadaaGreatzE
import Derived.Test.YtboolhhmagjadaaGreatQC
import Derived.Test.YtboolhhmagjadaaGreatRows
import Derived.WalkKit
import Derived.ProofKit
import Derived.OpenShut
import Derived.ShutString
import Derived.ChangeOld
import Derived.Below
import Derived.SizedLaws
set_option linter.unusedVariables false
set_option linter.unusedSimpArgs false
namespace Go.Q.S
open Go Go.Q Go.Proofs
def RL : List (Nat × Nat) := [(3, 3), (9, 9), (25, 25), (25, 38), (29, 29), (29, 42), (33, 33), (33, 46), (38, 25), (38, 38), (42, 29), (42, 42), (46, 33), (46, 46), (53, 53), (53, 133), (56, 56), (56, 136), (88, 88), (97, 97), (97, 140), (110, 110), (110, 243), (121, 121), (121, 306), (133, 53), (133, 133), (136, 56), (136, 136), (140, 97), (140, 140), (143, 143), (143, 200), (146, 146), (146, 202), (154, 154), (154, 239), (163, 163), (163, 247), (200, 143), (200, 200), (202, 146), (202, 202), (239, 154), (239, 239), (243, 110), (243, 243), (247, 163), (247, 247), (306, 121), (306, 306)]
theorem simR : simB H RL = true := by kernel_rfl
theorem cv {ds : List D} {c c' : List CT} (h : WL H ds c) (hc : layB RL c c' = true) : WL H ds c' := WL.conv simR ds h hc
theorem fits : Fits Tryz.prog H where
  ty := tyOK_of (l := tyL) (fun _ => rfl) (by kernel_rfl)
  eq := eqOK_of (l := eqL) (fun _ => rfl) (by kernel_rfl)
  mixed := Tryz.checked.mixed
  names := names_of (by kernel_rfl)
  ext := fun f g h => by simp [H] at h
theorem bd20 : Bd 1048576 := by unfold Bd; omega
theorem sub_le {b : Int} {n : Nat} (h : ¬ sub b n < 0) : (n : Int) ≤ b ∧ sub b n = b - n := by unfold sub at *; split at h <;> simp_all
theorem law3 {ds es : List D} (h : WL H ds L33) (h' : WL H es L33) : rn ⟨3, 0, 0⟩ (ds ++ es) = some (0, [.bool true]) := by
  have g0 := h
  have g0' := h'
  obtain ⟨a0, a1, a2, a3, a4, a5, a6, rfl, b0, b1, c1, b2, c2, b3, c3, b4, c4, b5, c5, b6, c6⟩ := wl33 h
  obtain ⟨y0, y1, y2, y3, y4, y5, y6, rfl, by0, by1, cy1, by2, cy2, by3, cy3, by4, cy4, by5, cy5, by6, cy6⟩ := wl33 h'
  show run H Tryz.prog ⟨3, 0, 0⟩ [D.str a0, D.sl a1, D.sl a2, D.sl a3, D.sl a4, D.sl a5, D.sl a6, D.str y0, D.sl y1, D.sl y2, D.sl y3, D.sl y4, D.sl y5, D.sl y6] = _
  rw [run_eq, g3_0_0_eq, g3_0_0]
  have e1 := s6 g0 bd20
  simp only [List.cons_append, List.nil_append, rn] at e1
  simp only [e1, Option.bind_some, nth, List.getD_cons_zero, List.getD_cons_succ, D.I, D.S, D.L, D.B]
  by_cases n1 : sub 1048576 (szL [D.str a0, D.sl a1, D.sl a2, D.sl a3, D.sl a4, D.sl a5, D.sl a6]) < 0
  · simp only [decide_eq_true n1, cond_true]
  have e2 := s6 g0' (Bd.sub bd20 (szL [D.str a0, D.sl a1, D.sl a2, D.sl a3, D.sl a4, D.sl a5, D.sl a6]))
  simp only [List.cons_append, List.nil_append, rn] at e2
  simp only [decide_eq_false n1, cond_false, e2, Option.bind_some, nth, List.getD_cons_zero, List.getD_cons_succ, D.I, D.S, D.L, D.B]
  by_cases n2 : sub (sub 1048576 (szL [D.str a0, D.sl a1, D.sl a2, D.sl a3, D.sl a4, D.sl a5, D.sl a6])) (szL [D.str y0, D.sl y1, D.sl y2, D.sl y3, D.sl y4, D.sl y5, D.sl y6]) < 0
  · simp only [decide_eq_true n2, cond_true]
  obtain ⟨m1, k1⟩ := sub_le n1
  obtain ⟨m2, k2⟩ := sub_le n2
  have x1 := c8 (by omega) g0
  have x2 := c8 (by omega) g0'
  have i0 : WL H [D.str a0, D.sl a1, D.sl a2, D.sl a3, D.sl a4, D.sl a5, D.sl a6] L46 := cv g0 (by kernel_rfl)
  have i1 : WL H [D.str y0, D.sl y1, D.sl y2, D.sl y3, D.sl y4, D.sl y5, D.sl y6] L46 := cv g0' (by kernel_rfl)
  have x3 := q7 i0 i1
  have i2 : WL H [D.str a0, D.sl a1, D.sl a2, D.sl a3, D.sl a4, D.sl a5, D.sl a6] L46 := cv g0 (by kernel_rfl)
  have i3 : WL H [D.str y0, D.sl y1, D.sl y2, D.sl y3, D.sl y4, D.sl y5, D.sl y6] L46 := cv g0' (by kernel_rfl)
  have x4 := q9 i2 i3
  have i4 : WL H [D.str a0, D.sl a1, D.sl a2, D.sl a3, D.sl a4, D.sl a5, D.sl a6] L46 := cv g0 (by kernel_rfl)
  have i5 : WL H [D.str a0, D.sl a1, D.sl a2, D.sl a3, D.sl a4, D.sl a5, D.sl a6] L46 := cv g0 (by kernel_rfl)
  have x5 := q10 i4 i5
  have i6 : WL H [D.str y0, D.sl y1, D.sl y2, D.sl y3, D.sl y4, D.sl y5, D.sl y6] L46 := cv g0' (by kernel_rfl)
  have i7 : WL H [D.str y0, D.sl y1, D.sl y2, D.sl y3, D.sl y4, D.sl y5, D.sl y6] L46 := cv g0' (by kernel_rfl)
  have x6 := q10 i6 i7
  simp only [List.cons_append, List.nil_append, rn, eqb_refl] at x1 x2 x3 x4 x5 x6
  simp only [decide_eq_false n2, cond_false, x1, x2, x3, x4, x5, x6, Option.bind_some, nth, List.getD_cons_zero, List.getD_cons_succ, D.I, D.S, D.L, D.B, beq_self_eq_true, Bool.not_true, cond_false]
end Go.Q.S
namespace Go.Q.S
open Go Go.Q Go.Proofs
theorem ki3 : H.ki ⟨3, 0, 0⟩ = some ⟨[(0, argSh ((H.ty 33).getD default)), (1, argSh ((H.ty 33).getD default))], [], [⟨.ret, [(0, .bool)], []⟩]⟩ := by kernel_rfl
theorem plain3 : plainB Tryz.prog H [3, 9, 22, 23, 25, 26, 27, 29, 30, 31, 33, 58, 131, 133, 134, 136, 138, 140, 200, 202, 239, 243, 245, 247, 306] = true := by kernel_rfl
end Go.Q.S
namespace Go.Proofs.YtboolhhmagjadaaGreat.fnExactEqualSession
open Go Go.Q Go.Q.S
open Go.ChangeShapes Go.WideShapes Go.ChangeAt Go.RowKit
open Go.ChangeMaps (open_string shut_string)
theorem own : ownKnob Tryz.prog.godebug = none := by kernel_rfl
theorem laid : laidOutB Tryz.prog = true := by kernel_rfl
set_option maxRecDepth 100000 in
theorem lifted (os : Os) (started : os.Started) (H : Type) (enc : TypeId × Value → H) :
    ReturnsInHanded {} Tryz.checked os 3 .any (Rows.fnExactEqualSessionSpec.pre6 enc Tryz.prog Tryz.f3 Rows.fnExactEqualSessionRow.domain false) (Rows.fnExactEqualSessionSpec.post enc Tryz.prog Tryz.f3 false true false false) := by
  refine returnsInHanded_of_change_sized (C := Tryz.checked) own started (by kernel_rfl) Tryz.func3
    (ChangeSpec.witness6 (enc := enc) (C := Tryz.checked) false ⟨#[], #[.agg #[.string ByteArray.empty, .slice none 0 0, .slice none 0 0, .slice none 0 0, .slice none 0 0, .slice none 0 0, .slice none 0 0], .agg #[.string ByteArray.empty, .slice none 0 0, .slice none 0 0, .slice none 0 0, .slice none 0 0, .slice none 0 0, .slice none 0 0]], []⟩ 8 (by kernel_rfl) (by kernel_rfl) (by kernel_rfl) (by kernel_rfl)) ?_
  intro W base args ds gs before hval0 hW hcnd hsz0 _
  have hval : ∀ (j : Nat) t v, Tryz.f3.params[j]? = some t → args[j]? = some v → Value.okWide Tryz.prog W .any base t v := hval0
  have hW' := hW
  obtain ⟨p, q, hA0, hV, rfl, hfz, hnd⟩ := hW
  have hA : DataW.TrodAll enc Tryz.prog W 0 (fun _ => true) true Tryz.f3.params.toList args.toList ds p := hA0
  rw [Tryz.params3] at hA hval
  obtain ⟨rfl, rfl⟩ := trodVars_none hV
  have hB := hA
  obtain ⟨v0, v1, d0, d1, p0, p1, rfl, rfl, hp, h0, h1⟩ := trodAll_two hA
  obtain ⟨dss, ha, hlen, hwl⟩ := args_data (H := Go.Q.S.H) fits.ty plain3 _ _ _ _ hB (by decide) (fun j t v h h' => hval j t v (by simpa using h) (by simpa using h'))
  obtain ⟨x0, x1, rfl⟩ : ∃ x0 x1, dss = [x0, x1] := by
    match dss, hlen with
    | [x0, x1], _ => exact ⟨x0, x1, rfl⟩
  obtain ⟨t0, e0, w0⟩ := hwl 0 _ _ rfl rfl
  rw [ty33] at e0
  obtain rfl := Option.some.inj e0
  obtain ⟨t1, e1, w1⟩ := hwl 1 _ _ rfl rfl
  rw [ty33] at e1
  obtain rfl := Option.some.inj e1
  refine (law_calls fits Tryz.func3 (by kernel_rfl) ki3 rfl rfl ha (b := true) (by simpa using law3 w0 w1)).mono fun e W' ⟨he, bel⟩ => ?_
  subst he
  exact ⟨_, rfl, _, _, _, [], p, _, hW', trodAll_mk1 (shut_bool Tryz.underlying4 _), trodAll_below laid _ _ _ _ (read_of (by kernel_rfl)) hB bel (fun z hz => hW'.lt z (by simp [hz])), rfl, bel.frame _, fun h => by cases h⟩
theorem over : Rows.fnExactEqualSessionRow.holds Tryz.pinned (OpenSpec.ofChange Rows.fnExactEqualSessionSpec) :=
  OpenClaim.holds_of_wide 3 Tryz.f3 rfl rfl rfl rfl rfl rfl rfl ⟨rfl, rfl, rfl, rfl, rfl⟩ rfl rfl rfl rfl rfl (by kernel_rfl) Tryz.func3 (by kernel_rfl)
    (of_decide_eq_true (by kernel_rfl)) (by unfold Func.isWrapper; first | (rw [if_pos (by decide +kernel)]; kernel_rfl) | (rw [if_neg (by decide +kernel)]; exact ⟨rfl, rfl⟩))
    (fun os started H enc _ => lifted os started H enc)
theorem proved : Rows.FnExactEqualSessionSaid := over
end Go.Proofs.YtboolhhmagjadaaGreat.fnExactEqualSession
namespace Go.Proofs.YtboolhhmagjadaaGreat
/-- The row, under a short name, for the claim. -/
theorem fnExactEqualSession_holds : Rows.FnExactEqualSessionSaid := fnExactEqualSession.proved
end Go.Proofs.YtboolhhmagjadaaGreat
