/- For all arguments the law FnExactMapCase answers true and leaves its arguments as they were; no condition. -/
import Derived.Test.YtmahppdampmpfaaaM
import Derived.Test.YtmahppdampmpfaaQC
import Derived.Test.YtmahppdampmpfaaRows
import Derived.WalkKit
import Derived.ProofKit
import Derived.OpenShut
import Derived.ShutString
import Derived.ChangeOld
import Derived.Below
import Derived.SizedLaws
set_option linter.unusedVariables false
set_option linter.unusedSimpArgs false
namespace Go.Q.S
open Go Go.Q Go.Proofs
def L35 : List CT := [.sl 9]
theorem ty35 : H.ty 35 = some ⟨false, L35, []⟩ := by kernel_rfl
theorem wl35 {ds : List D} (h : WL H ds L35) : ∃ a0, ds = [D.sl a0] ∧ a0.length ≤ maxLen ∧ WRs H a0 L9 := by
  unfold L35 at h
  obtain ⟨a0, _, rfl, b0, c0, h⟩ := wl_sl ty9 h
  obtain rfl := wl_nil h
  exact ⟨a0, rfl, b0, c0⟩
def L3 : List CT := [.int .i64]
theorem ty3 : H.ty 3 = some ⟨false, L3, []⟩ := by kernel_rfl
theorem wl3 {ds : List D} (h : WL H ds L3) : ∃ a0, ds = [D.int a0] := by
  unfold L3 at h
  obtain ⟨a0, _, rfl, _, h⟩ := wl_int h
  obtain rfl := wl_nil h
  exact ⟨a0, rfl⟩
def L56 : List CT := [.sl 103]
theorem ty56 : H.ty 56 = some ⟨false, L56, []⟩ := by kernel_rfl
theorem wl56 {ds : List D} (h : WL H ds L56) : ∃ a0, ds = [D.sl a0] ∧ a0.length ≤ maxLen ∧ WRs H a0 L103 := by
  unfold L56 at h
  obtain ⟨a0, _, rfl, b0, c0, h⟩ := wl_sl ty103 h
  obtain rfl := wl_nil h
  exact ⟨a0, rfl, b0, c0⟩
def RL : List (Nat × Nat) := [(3, 3), (9, 9), (26, 26), (26, 31), (31, 26), (31, 31), (35, 35), (56, 56), (103, 103), (103, 109), (109, 103), (109, 109)]
theorem simR : simB H RL = true := by kernel_rfl
theorem cv {ds : List D} {c c' : List CT} (h : WL H ds c) (hc : layB RL c c' = true) : WL H ds c' := WL.conv simR ds h hc
theorem fits : Fits Try.prog H where
  ty := tyOK_of (l := tyL) (fun _ => rfl) (by kernel_rfl)
  eq := eqOK_of (l := eqL) (fun _ => rfl) (by kernel_rfl)
  mixed := Try.checked.mixed
  names := names_of (by kernel_rfl)
  ext := fun f g h => by simp [H] at h
theorem bd20 : Bd 1048576 := by unfold Bd; omega
theorem sub_le {b : Int} {n : Nat} (h : ¬ sub b n < 0) : (n : Int) ≤ b ∧ sub b n = b - n := by unfold sub at *; split at h <;> simp_all
theorem tmTy : TmTy H 26 [.int .i64, .int .i64, .str, .sl 26] := ⟨rfl, _, ty26, rfl⟩
theorem law8c {a b d : Rows} {c : Int} (ha : WL H [.sl a] L35) (hc : WL H [.int c] L3) (hb : WL H [.sl b] L35) (hd : WL H [.sl d] L56) : rn ⟨8, 0, 0⟩ [.sl a, .int c, .sl b, .sl d] = some (0, [.bool true]) := by
  unfold L35 at ha hb
  unfold L56 at hd
  obtain ⟨a', _, ea, la, wa, _⟩ := wl_sl ty9 ha
  obtain ⟨b', _, eb, lb, wb, _⟩ := wl_sl ty9 hb
  obtain ⟨d', _, ed, ld, wd, _⟩ := wl_sl ty103 hd
  simp only [List.cons.injEq, D.sl.injEq] at ea eb ed
  obtain ⟨rfl, _⟩ := ea
  obtain ⟨rfl, _⟩ := eb
  obtain ⟨rfl, _⟩ := ed
  show run H Try.prog _ _ = _
  rw [run_eq, g8_0_0_eq, g8_0_0]
  have e1 := s29 la wa bd20
  simp only [rn] at e1
  simp only [e1, Option.bind_some, nth, List.getD_cons_zero, List.getD_cons_succ, D.I, D.S, D.L, D.B]
  by_cases n1 : sub 1048576 (D.sz (.sl a)) < 0
  · simp only [decide_eq_true n1, cond_true]
  have e2 := s29 lb wb (Bd.sub bd20 (D.sz (.sl a)))
  simp only [rn] at e2
  simp only [decide_eq_false n1, cond_false, e2, Option.bind_some, nth, List.getD_cons_zero, List.getD_cons_succ, D.I, D.S, D.L, D.B]
  by_cases n2 : sub (sub 1048576 (D.sz (.sl a))) (D.sz (.sl b)) < 0
  · simp only [decide_eq_true n2, cond_true]
  have e3 := s30 ld wd (Bd.sub (Bd.sub bd20 (D.sz (.sl a))) (D.sz (.sl b)))
  simp only [rn] at e3
  simp only [decide_eq_false n2, cond_false, e3, Option.bind_some, nth, List.getD_cons_zero, List.getD_cons_succ, D.I, D.S, D.L, D.B]
  by_cases n3 : sub (sub (sub 1048576 (D.sz (.sl a))) (D.sz (.sl b))) (D.sz (.sl d)) < 0
  · simp only [decide_eq_true n3, cond_true]
  obtain ⟨m1, k1⟩ := sub_le n1
  obtain ⟨m2, k2⟩ := sub_le n2
  obtain ⟨m3, k3⟩ := sub_le n3
  simp only [D.sz] at m1 m2 m3 k1 k2 k3
  have x1 := c32 (rs := a) (by omega) wa
  have x2 := c32 (rs := b) (by omega) wb
  have x3 := c33 (rs := d) (by omega) wd
  have wd' : WRs H d L109 := WRs.conv simR d wd (by kernel_rfl)
  have wa' : WRs H a L9 := WRs.conv simR a wa (by kernel_rfl)
  have wb' : WRs H b L9 := WRs.conv simR b wb (by kernel_rfl)
  have x4 := q35 la la wa' wa'
  have x5 := q35 lb lb wb' wb'
  have x6 := q36 ld ld wd' wd'
  have dl : d.length ≤ 1048576 := by omega
  have dz : szR d ≤ 1048576 := by omega
  obtain ⟨vars, rfl⟩ := strs_of' wa
  obtain ⟨target, rfl⟩ := strs_of' wb
  obtain ⟨l, rfl, hs⟩ := bnds_of tmTy d wd dz
  have hl : l.length ≤ 1048576 := by simpa using dl
  have x7 := (r34 vars c target l hl hs).trans (mapRes_eq ..)
  have x8 := (r31 vars c target l hl hs).trans (mapRes_eq ..)
  simp only [rn, eqb_refl] at x1 x2 x3 x4 x5 x6 x7 x8
  simp only [decide_eq_false n3, cond_false, x1, x2, x3, x4, x5, x6, x7, x8, Option.bind_some, nth, List.getD_cons_zero, List.getD_cons_succ, D.I, D.S, D.L, D.B, beq_self_eq_true, Bool.not_true, cond_false, decide_true]
theorem law8 {x0 x1 x2 x3 : List D} (h0 : WL H x0 L35) (h1 : WL H x1 L3) (h2 : WL H x2 L35) (h3 : WL H x3 L56) : rn ⟨8, 0, 0⟩ (x0 ++ (x1 ++ (x2 ++ x3))) = some (0, [.bool true]) := by
  obtain ⟨a, rfl, _, _⟩ := wl35 h0
  obtain ⟨c, rfl⟩ := wl3 h1
  obtain ⟨b, rfl, _, _⟩ := wl35 h2
  obtain ⟨d, rfl, _, _⟩ := wl56 h3
  exact law8c h0 h1 h2 h3
end Go.Q.S
namespace Go.Q.S
open Go Go.Q Go.Proofs
theorem ki8 : H.ki ⟨8, 0, 0⟩ = some ⟨[(0, argSh ((H.ty 35).getD default)), (1, argSh ((H.ty 3).getD default)), (2, argSh ((H.ty 35).getD default)), (3, argSh ((H.ty 56).getD default))], [], [⟨.ret, [(0, .bool)], []⟩]⟩ := by kernel_rfl
theorem plain8 : plainB Try.prog H [3, 9, 24, 26, 35, 56, 103] = true := by kernel_rfl
end Go.Q.S
namespace Go.Proofs.Ytmahppdampmpfaa.fnExactMapCase
open Go Go.Q Go.Q.S
open Go.ChangeShapes Go.WideShapes Go.ChangeAt Go.RowKit
open Go.ChangeMaps (open_string shut_string)
theorem own : ownKnob Try.prog.godebug = none := by kernel_rfl
theorem laid : laidOutB Try.prog = true := by kernel_rfl
set_option maxRecDepth 100000 in
theorem lifted (os : Os) (started : os.Started) (H : Type) (enc : TypeId × Value → H) :
    ReturnsInHanded {} Try.checked os 8 .any (Rows.fnExactMapCaseSpec.pre6 enc Try.prog Try.f8 Rows.fnExactMapCaseRow.domain false) (Rows.fnExactMapCaseSpec.post enc Try.prog Try.f8 false true false false) := by
  refine returnsInHanded_of_change_sized (C := Try.checked) own started (by kernel_rfl) Try.func8
    (ChangeSpec.witness6 (enc := enc) (C := Try.checked) false ⟨#[], #[.slice none 0 0, .int .i64 0, .slice none 0 0, .slice none 0 0], []⟩ 8 (by kernel_rfl) (by kernel_rfl) (by kernel_rfl) (by kernel_rfl)) ?_
  intro W base args ds gs before hval0 hW hcnd hsz0 _
  have hval : ∀ (j : Nat) t v, Try.f8.params[j]? = some t → args[j]? = some v → Value.okWide Try.prog W .any base t v := hval0
  have hW' := hW
  obtain ⟨p, q, hA0, hV, rfl, hfz, hnd⟩ := hW
  have hA : DataW.TrodAll enc Try.prog W 0 (fun _ => true) true Try.f8.params.toList args.toList ds p := hA0
  rw [Try.params8] at hA hval
  obtain ⟨rfl, rfl⟩ := trodVars_none hV
  have hB := hA
  obtain ⟨v0, v1, v2, v3, d0, d1, d2, d3, p0, p1, p2, p3, rfl, rfl, hp, h0, h1, h2, h3⟩ := trodAll_four hA
  obtain ⟨dss, ha, hlen, hwl⟩ := args_data (H := Go.Q.S.H) fits.ty plain8 _ _ _ _ hB (by decide) (fun j t v h h' => hval j t v (by simpa using h) (by simpa using h'))
  obtain ⟨x0, x1, x2, x3, rfl⟩ : ∃ x0 x1 x2 x3, dss = [x0, x1, x2, x3] := by
    match dss, hlen with
    | [x0, x1, x2, x3], _ => exact ⟨x0, x1, x2, x3, rfl⟩
  obtain ⟨t0, e0, w0⟩ := hwl 0 _ _ rfl rfl
  rw [ty35] at e0
  obtain rfl := Option.some.inj e0
  obtain ⟨t1, e1, w1⟩ := hwl 1 _ _ rfl rfl
  rw [ty3] at e1
  obtain rfl := Option.some.inj e1
  obtain ⟨t2, e2, w2⟩ := hwl 2 _ _ rfl rfl
  rw [ty35] at e2
  obtain rfl := Option.some.inj e2
  obtain ⟨t3, e3, w3⟩ := hwl 3 _ _ rfl rfl
  rw [ty56] at e3
  obtain rfl := Option.some.inj e3
  refine (law_calls fits Try.func8 (by kernel_rfl) ki8 rfl rfl ha (b := true) (by simpa using law8 w0 w1 w2 w3)).mono fun e W' ⟨he, bel⟩ => ?_
  subst he
  exact ⟨_, rfl, _, _, _, [], p, _, hW', trodAll_mk1 (shut_bool Try.underlying4 _), trodAll_below laid _ _ _ _ (read_of (by kernel_rfl)) hB bel (fun z hz => hW'.lt z (by simp [hz])), rfl, bel.frame _, fun h => by cases h⟩
theorem over : Rows.fnExactMapCaseRow.holds Try.pinned (OpenSpec.ofChange Rows.fnExactMapCaseSpec) :=
  OpenClaim.holds_of_wide 8 Try.f8 rfl rfl rfl rfl rfl rfl rfl ⟨rfl, rfl, rfl, rfl, rfl⟩ rfl rfl rfl rfl rfl (by kernel_rfl) Try.func8 (by kernel_rfl)
    (of_decide_eq_true (by kernel_rfl)) (by unfold Func.isWrapper; first | (rw [if_pos (by decide +kernel)]; kernel_rfl) | (rw [if_neg (by decide +kernel)]; exact ⟨rfl, rfl⟩))
    (fun os started H enc _ => lifted os started H enc)
theorem proved : Rows.FnExactMapCaseSaid := over
end Go.Proofs.Ytmahppdampmpfaa.fnExactMapCase
namespace Go.Proofs.Ytmahppdampmpfaa
/-- The row, under a short name, for the claim. -/
theorem fnExactMapCase_holds : Rows.FnExactMapCaseSaid := fnExactMapCase.proved
end Go.Proofs.Ytmahppdampmpfaa
