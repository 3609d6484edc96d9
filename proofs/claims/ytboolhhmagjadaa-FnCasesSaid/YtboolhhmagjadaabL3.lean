/- For all arguments the law FnCases answers true and leaves its arguments as they were; no condition. -/
import Derived.Test.YtboolhhmagjadaabH
import Derived.Test.YtboolhhmagjadaaQC
import Derived.Test.YtboolhhmagjadaaRows
import Derived.WalkKit
import Derived.ProofKit
import Derived.OpenShut
import Derived.ShutString
import Derived.ChangeOld
import Derived.Below
import Derived.SizedLaws
set_option linter.unusedVariables false
set_option linter.unusedSimpArgs false
namespace Go.Q.S
open Go Go.Q Go.Proofs
def L5 : List CT := [.int .u8]
theorem ty5 : H.ty 5 = some ⟨false, L5, []⟩ := by kernel_rfl
theorem wl5 {ds : List D} (h : WL H ds L5) : ∃ a0, ds = [D.int a0] := by
  unfold L5 at h
  obtain ⟨a0, _, rfl, _, h⟩ := wl_int h
  obtain rfl := wl_nil h
  exact ⟨a0, rfl⟩
def L22 : List CT := [.sl 5]
theorem ty22 : H.ty 22 = some ⟨false, L22, []⟩ := by kernel_rfl
theorem wl22 {ds : List D} (h : WL H ds L22) : ∃ a0, ds = [D.sl a0] ∧ a0.length ≤ maxLen ∧ WRs H a0 L5 := by
  unfold L22 at h
  obtain ⟨a0, _, rfl, b0, c0, h⟩ := wl_sl ty5 h
  obtain rfl := wl_nil h
  exact ⟨a0, rfl, b0, c0⟩
def RL : List (Nat × Nat) := [(5, 5), (22, 22)]
theorem simR : simB H RL = true := by kernel_rfl
theorem cv {ds : List D} {c c' : List CT} (h : WL H ds c) (hc : layB RL c c' = true) : WL H ds c' := WL.conv simR ds h hc
theorem fits : Fits Try.prog H where
  ty := tyOK_of (l := tyL) (fun _ => rfl) (by kernel_rfl)
  eq := eqOK_of (l := eqL) (fun _ => rfl) (by kernel_rfl)
  mixed := Try.checked.mixed
  names := names_of (by kernel_rfl)
  ext := fun f g h => by simp [H] at h
theorem bd20 : Bd 1048576 := by unfold Bd; omega
theorem sub_le {b : Int} {n : Nat} (h : ¬ sub b n < 0) : (n : Int) ≤ b ∧ sub b n = b - n := by unfold sub at *; split at h <;> simp_all

theorem allC_climbs (vars : List ByteArray) (gs : List Gu) : ∀ i (h : i + 1 < (allC vars gs).length), (allC vars gs)[i] < (allC vars gs)[i + 1] := fun i h => by
  have hp : (allC vars gs).Pairwise (· < ·) := List.Pairwise.filter _ List.pairwise_lt_range
  exact (List.pairwise_iff_getElem.1 hp) i (i + 1) (by omega) h (by omega)
theorem allC_len (vars : List ByteArray) (gs : List Gu) : ((allC vars gs).length : Int) ≤ cnt4 vars.length := by
  have h1 : (allC vars gs).length ≤ (List.range (cnt4 vars.length).toNat).length := List.length_filter_le _ _
  rw [List.length_range] at h1
  have := (cnt4_nat vars.length).1
  omega
def foldV (l : List Int) : Int := l.foldl (fun v x => IntKind.i64.wrap (IntKind.i64.wrap (v * 4) + x)) 0
theorem foldV_vals : ∀ n : Nat, n < 5 → ∀ c : Nat, c < 70 → (vals n ((c : Int) - 1)).length > 0 → foldV (vals n ((c : Int) - 1)) = (c : Int) - 1 := by decide +kernel
theorem fold_ok (a : Rows) (c : Int) (l : List Int) (hl : l.length ≤ 1048576) : run H Try.prog ⟨3, 0, 1⟩ [.sl a, .int c, .int 0, .int 0, .sl (l.map iRow)] = some (0, [.sl a, .int c, .int (foldV l), .sl (l.map iRow)]) := by
  have hk : ∀ (k i : Nat) (v : Int), i + k = l.length → run H Try.prog ⟨3, 0, 1⟩ [.sl a, .int c, .int v, .int (i : Int), .sl (l.map iRow)] = some (0, [.sl a, .int c, .int ((l.drop i).foldl (fun v x => IntKind.i64.wrap (IntKind.i64.wrap (v * 4) + x)) v), .sl (l.map iRow)]) := by
    intro k
    induction k with
    | zero =>
      intro i v hi
      rw [run_eq, g3_0_1_eq, g3_0_1]
      rw [List.length_map, decide_eq_false (by omega : ¬ (i : Int) < (l.length : Int)), List.drop_eq_nil_of_le (by omega)]; rfl
    | succ k ih =>
      intro i v hi
      have hlt : i < l.length := by omega
      rw [run_eq, g3_0_1_eq, g3_0_1]
      rw [List.length_map, decide_eq_true (by omega : (i : Int) < (l.length : Int))]
      simp only [cond_true, inbN, hlt, decide_true, Int.toNat_natCast, rowAt_map hlt, iRow, nth, List.getD_cons_zero, List.getD_cons_succ, D.I, D.S, D.L, D.B, wrap_succ hlt (by unfold maxLen; omega)]
      have := ih (i + 1) (IntKind.i64.wrap (IntKind.i64.wrap (v * 4) + l[i])) (by omega)
      rw [List.drop_eq_getElem_cons hlt, List.foldl_cons]
      exact this
  have := hk l.length 0 0 (by omega)
  simpa [foldV] using this
theorem law3r (code : Rows) : rn ⟨3, 0, 0⟩ [.sl code] = some (0, [.bool true]) := by
  show run H Try.prog _ _ = _
  rw [run_eq, g3_0_0_eq, g3_0_0]
  have hb : run H Try.prog ⟨11, 0, 0⟩ [.sl code] = some (0, [.bool (decide ((1048576 : Int) < code.length))]) := by
    rw [run_eq, g11_0_0_eq, g11_0_0]
  simp only [hb, Option.bind_some, nth, List.getD_cons_zero, List.getD_cons_succ, D.I, D.S, D.L, D.B]
  by_cases hl : code.length ≤ 1048576
  case neg => rw [decide_eq_true (by omega : (1048576 : Int) < code.length)]; rfl
  rw [decide_eq_false (by omega : ¬ (1048576 : Int) < code.length)]
  obtain ⟨_, e1, nn, c, hn, hc, rfl⟩ := dvals_ok hl
  obtain ⟨_, e2, vars, gs, hv, hg, ho, rfl⟩ := dall_ok hl
  obtain ⟨_, e3, names, m, rfl⟩ := dsub_ok hl
  have hgl : gs.length ≤ 1048576 := by omega
  have v1 := r13 nn ((c : Int) - 1)
  have v2 := r15 nn ((c : Int) - 1)
  have vl := vals_len nn ((c : Int) - 1)
  have v3 := sameInts_ok (a := (vals nn ((c : Int) - 1)).map iRow) (by rw [List.length_map]; omega)
  have c1 := r16 nn
  have c2 := r17 nn
  have fo := fold_ok code ((c : Int) - 1) (vals nn ((c : Int) - 1)) (by omega)
  have a1 := r19 vars gs hgl ho
  have a2 := r21 vars gs hgl ho
  have al := allC_len vars gs
  have cl := cnt4_le vars.length
  have a3 := sameInts_ok (a := (allC vars gs).map nRow) (by rw [List.length_map]; omega)
  have a4 := climbs_ok (a := allC vars gs) (by omega) (allC_climbs vars gs)
  have s1 := r24 names m
  have s2 := r25 names m
  have s3 := sameBinds_ok (l := caseS names m) (caseS_len names m) (caseS_small names m)
  have c3 := r16 vars.length
  have fv := foldV_vals nn hn c hc
  simp only [rn] at e1 e2 e3 v1 v2 v3 c1 c2 a1 a2 a3 a4 s1 s2 s3 c3
  have hal : decide (((allC vars gs).length : Int) ≤ cnt4 vars.length) = true := decide_eq_true al
  by_cases h0 : (vals nn ((c : Int) - 1)).length > 0
  · simp only [cond_false, cond_true, e1, e2, e3, v1, v2, v3, c1, c2, fo, a1, a2, a3, a4, s1, s2, s3, c3, Option.bind_some, nth, List.getD_cons_zero, List.getD_cons_succ, D.I, D.S, D.L, D.B, Bool.not_true, Bool.not_false, decide_true, Nat.beq_refl, List.length_map, fv h0, ite_self, hal, Bool.cond_self]
  · have hn0 : vals nn ((c : Int) - 1) = [] := List.length_eq_zero_iff.1 (by omega)
    rw [hn0] at v1 v2 v3 fo
    simp only [cond_false, cond_true, e1, e2, e3, v1, v2, v3, c1, c2, fo, a1, a2, a3, a4, s1, s2, s3, c3, Option.bind_some, nth, List.getD_cons_zero, List.getD_cons_succ, D.I, D.S, D.L, D.B, Bool.not_true, Bool.not_false, decide_true, Nat.beq_refl, List.length_map, List.length_nil, ite_self, hal, Bool.cond_self, show decide ((0 : Int) < ((0 : Nat) : Int)) = false from rfl]
theorem law3 {x0 : List D} (h0 : WL H x0 L22) : rn ⟨3, 0, 0⟩ x0 = some (0, [.bool true]) := by
  obtain ⟨a, rfl, _, _⟩ := wl22 h0
  exact law3r a
end Go.Q.S
namespace Go.Q.S
open Go Go.Q Go.Proofs
theorem ki3 : H.ki ⟨3, 0, 0⟩ = some ⟨[(0, argSh ((H.ty 22).getD default))], [], [⟨.ret, [(0, .bool)], []⟩]⟩ := by kernel_rfl
theorem plain3 : plainB Try.prog H [5, 22] = true := by kernel_rfl
end Go.Q.S
namespace Go.Proofs.Ytboolhhmagjadaa.fnCases
open Go Go.Q Go.Q.S
open Go.ChangeShapes Go.WideShapes Go.ChangeAt Go.RowKit
open Go.ChangeMaps (open_string shut_string)
theorem own : ownKnob Try.prog.godebug = none := by kernel_rfl
theorem laid : laidOutB Try.prog = true := by kernel_rfl
set_option maxRecDepth 100000 in
theorem lifted (os : Os) (started : os.Started) (H : Type) (enc : TypeId × Value → H) :
    ReturnsInHanded {} Try.checked os 3 .any (Rows.fnCasesSpec.pre6 enc Try.prog Try.f3 Rows.fnCasesRow.domain false) (Rows.fnCasesSpec.post enc Try.prog Try.f3 false true false false) := by
  refine returnsInHanded_of_change_sized (C := Try.checked) own started (by kernel_rfl) Try.func3
    (ChangeSpec.witness6 (enc := enc) (C := Try.checked) false ⟨#[], #[.slice none 0 0], []⟩ 8 (by kernel_rfl) (by kernel_rfl) (by kernel_rfl) (by kernel_rfl)) ?_
  intro W base args ds gs before hval0 hW hcnd hsz0 _
  have hval : ∀ (j : Nat) t v, Try.f3.params[j]? = some t → args[j]? = some v → Value.okWide Try.prog W .any base t v := hval0
  have hW' := hW
  obtain ⟨p, q, hA0, hV, rfl, hfz, hnd⟩ := hW
  have hA : DataW.TrodAll enc Try.prog W 0 (fun _ => true) true Try.f3.params.toList args.toList ds p := hA0
  rw [Try.params3] at hA hval
  obtain ⟨rfl, rfl⟩ := trodVars_none hV
  have hB := hA
  obtain ⟨v0, d0, rfl, rfl, h0⟩ := trodAll_one hA
  obtain ⟨dss, ha, hlen, hwl⟩ := args_data (H := Go.Q.S.H) fits.ty plain3 _ _ _ _ hB (by decide) (fun j t v h h' => hval j t v (by simpa using h) (by simpa using h'))
  obtain ⟨x0, rfl⟩ : ∃ x0, dss = [x0] := by
    match dss, hlen with
    | [x0], _ => exact ⟨x0, rfl⟩
  obtain ⟨t0, e0, w0⟩ := hwl 0 _ _ rfl rfl
  rw [ty22] at e0
  obtain rfl := Option.some.inj e0
  refine (law_calls fits Try.func3 (by kernel_rfl) ki3 rfl rfl ha (b := true) (by simpa using law3 w0)).mono fun e W' ⟨he, bel⟩ => ?_
  subst he
  exact ⟨_, rfl, _, _, _, [], p, _, hW', trodAll_mk1 (shut_bool Try.underlying4 _), trodAll_below laid _ _ _ _ (read_of (by kernel_rfl)) hB bel (fun z hz => hW'.lt z (by simp [hz])), rfl, bel.frame _, fun h => by cases h⟩
theorem over : Rows.fnCasesRow.holds Try.pinned (OpenSpec.ofChange Rows.fnCasesSpec) :=
  OpenClaim.holds_of_wide 3 Try.f3 rfl rfl rfl rfl rfl rfl rfl ⟨rfl, rfl, rfl, rfl, rfl⟩ rfl rfl rfl rfl rfl (by kernel_rfl) Try.func3 (by kernel_rfl)
    (of_decide_eq_true (by kernel_rfl)) (by unfold Func.isWrapper; first | (rw [if_pos (by decide +kernel)]; kernel_rfl) | (rw [if_neg (by decide +kernel)]; exact ⟨rfl, rfl⟩))
    (fun os started H enc _ => lifted os started H enc)
theorem proved : Rows.FnCasesSaid := over
end Go.Proofs.Ytboolhhmagjadaa.fnCases
namespace Go.Proofs.Ytboolhhmagjadaa
/-- The row, under a short name, for the claim. -/
theorem fnCases_holds : Rows.FnCasesSaid := fnCases.proved
end Go.Proofs.Ytboolhhmagjadaa
