/- For all arguments the law FnExactPassesTest answers true and leaves its arguments as they were; no condition. -/
import Derived.Test.YthlngiieofkmiaaGreatmI
import Derived.Test.YthlngiieofkmiaaGreatmP12
import Derived.Test.YthlngiieofkmiaaGreatmE5
import Derived.Test.YthlngiieofkmiaaGreatRows
import Derived.WalkKit
import Derived.ProofKit
import Derived.OpenShut
import Derived.ShutString
import Derived.ChangeOld
import Derived.Below
import Derived.SizedLaws
set_option linter.unusedVariables false
set_option linter.unusedSimpArgs false
namespace Go.Q.S
open Go Go.Q Go.Proofs

theorem law5c {a0 : Rows} {a1 : Rows} {a2 : Rows} {a3 : Rows} {a4 : Rows} {a5 : Int} {a6 : Int} {a7 : ByteArray} {a8 : Rows} {a9 : Int} {a10 : Int} {a11 : ByteArray} {a12 : Rows} {a13 : Int} (w0 : WL H [.sl a0, .sl a1, .sl a2, .sl a3] L29) (w1 : WL H [.sl a4, .int a5, .int a6, .str a7, .sl a8, .int a9, .int a10, .str a11, .sl a12, .int a13] L64) : rn ⟨5, 0, 0⟩ [.sl a0, .sl a1, .sl a2, .sl a3, .sl a4, .int a5, .int a6, .str a7, .sl a8, .int a9, .int a10, .str a11, .sl a12, .int a13] = some (0, [.bool true]) := by
  have w0_ := w0
  have w1_ := w1
  show rn _ _ = _
  rw [e5_0_0]
  have e0 := s15 w0 bd20
  simp only [List.cons_append, List.nil_append] at e0
  simp only [e0, Option.bind_some, nth, List.getD_cons_zero, List.getD_cons_succ, D.I, D.S, D.L, D.B]
  by_cases n0 : (sub 1048576 (szL [.sl a0, .sl a1, .sl a2, .sl a3])) < 0
  · simp only [decide_eq_true n0, cond_true]
  have e1 := s28 w1 (Bd.sub bd20 (szL [.sl a0, .sl a1, .sl a2, .sl a3]))
  simp only [List.cons_append, List.nil_append] at e1
  simp only [decide_eq_false n0, cond_false, e1, Option.bind_some, nth, List.getD_cons_zero, List.getD_cons_succ, D.I, D.S, D.L, D.B]
  by_cases n1 : (sub (sub 1048576 (szL [.sl a0, .sl a1, .sl a2, .sl a3])) (szL [.sl a4, .int a5, .int a6, .str a7, .sl a8, .int a9, .int a10, .str a11, .sl a12, .int a13])) < 0
  · simp only [decide_eq_true n1, cond_true]
  obtain ⟨m0, k0⟩ := sub_le n0
  obtain ⟨m1, k1⟩ := sub_le n1
  have z0 : (szL [.sl a0, .sl a1, .sl a2, .sl a3]) ≤ 1048576 := by omega
  have zz0 := z0
  simp only [szL, D.sz] at zz0
  have z1 : (szL [.sl a4, .int a5, .int a6, .str a7, .sl a8, .int a9, .int a10, .str a11, .sl a12, .int a13]) ≤ 1048576 := by omega
  have zz1 := z1
  simp only [szL, D.sz] at zz1
  have u0 : WL H [.sl a0, .sl a1, .sl a2, .sl a3] L45 := WL.conv simR _ w0 (by kernel_rfl)
  obtain ⟨xx0, xx1, xx2, xx3, hh, bu0, cu0, bu1, cu1, bu2, cu2, bu3, cu3⟩ := wl45 u0
  simp only [List.cons.injEq, D.int.injEq, D.bool.injEq, D.str.injEq, D.sl.injEq, and_true] at hh
  obtain ⟨rfl, rfl, rfl, rfl⟩ := hh
  have x0 := c18 z0 w0
  skip
  have u1 : WL H [.sl a4, .int a5, .int a6, .str a7, .sl a8, .int a9, .int a10, .str a11, .sl a12, .int a13] L68 := WL.conv simR _ w1 (by kernel_rfl)
  obtain ⟨xx0, xx1, xx2, xx3, xx4, xx5, xx6, xx7, xx8, xx9, hh, bu4, cu4, bu7, bu8, cu8, bu11, bu12, cu12⟩ := wl68 u1
  simp only [List.cons.injEq, D.int.injEq, D.bool.injEq, D.str.injEq, D.sl.injEq, and_true] at hh
  obtain ⟨rfl, rfl, rfl, rfl, rfl, rfl, rfl, rfl, rfl, rfl⟩ := hh
  have x1 := c30 z1 w1
  skip
  have q0_ := q21 u0 u0
  simp only [eqb_refl, List.cons_append, List.nil_append] at q0_
  have q1_ := q32 u1 u1
  simp only [eqb_refl, List.cons_append, List.nil_append] at q1_
  obtain ⟨d, rfl, rfl, rfl, rfl, hdb⟩ := def_of tmTy ty127 rfl ty9 rfl cu0 cu1 cu2 cu3 z0
  obtain ⟨t, ht_t, sm_t⟩ := tm_of tmTy _ [.int a5, .int a6, .str a7, .sl a8] (Nat.lt_succ_self _) (WL.part 1 4 u1) (by have := z1; simp only [szL, D.sz] at this ⊢; omega)
  have wl_t : WL H t.row L49 := ht_t ▸ WL.part 1 4 u1
  have nd_t := tm_nodes t
  have ct_t := tm_cntR t
  rw [← ht_t] at nd_t
  simp only [szL, D.sz] at nd_t
  rw [Tm.row_eq] at ht_t
  simp only [List.cons.injEq, D.int.injEq, D.str.injEq, D.sl.injEq, and_true] at ht_t
  obtain ⟨rfl, rfl, rfl, rfl⟩ := ht_t
  have wt_t := (wt_iff tmTy t).1 wl_t
  have hn_t : t.nodes ≤ 1048577 := by omega
  obtain ⟨u, ht_u, sm_u⟩ := tm_of tmTy _ [.int a9, .int a10, .str a11, .sl a12] (Nat.lt_succ_self _) (WL.part 5 4 u1) (by have := z1; simp only [szL, D.sz] at this ⊢; omega)
  have wl_u : WL H u.row L49 := ht_u ▸ WL.part 5 4 u1
  have nd_u := tm_nodes u
  have ct_u := tm_cntR u
  rw [← ht_u] at nd_u
  simp only [szL, D.sz] at nd_u
  rw [Tm.row_eq] at ht_u
  simp only [List.cons.injEq, D.int.injEq, D.str.injEq, D.sl.injEq, and_true] at ht_u
  obtain ⟨rfl, rfl, rfl, rfl⟩ := ht_u
  have wt_u := (wt_iff tmTy u).1 wl_u
  have hn_u : u.nodes ≤ 1048577 := by omega
  have xS := fun a => r29 d hdb a t wt_t hn_t u a13
  have xI := fun a => r31 d hdb a t wt_t hn_t u a13
  simp only [decide_eq_false n1, cond_false, x0, x1, q0_, q1_, xS, xI, Option.bind_some, nth, List.getD_cons_zero, List.getD_cons_succ, D.I, D.S, D.L, D.B, List.nil_append, Bool.not_true, cond_false, cond_true, decide_true, beq_self_eq_true, Bool.not_false]
theorem law5 {x0 x1 : List D} (h0 : WL H x0 L29) (h1 : WL H x1 L64) : rn ⟨5, 0, 0⟩ (x0 ++ (x1)) = some (0, [.bool true]) := by
  obtain ⟨a0, a1, a2, a3, rfl, _, _, _, _, _, _, _, _⟩ := wl29 h0
  obtain ⟨a4, a5, a6, a7, a8, a9, a10, a11, a12, a13, rfl, _, _, _, _, _, _, _, _⟩ := wl64 h1
  exact law5c h0 h1
end Go.Q.S
namespace Go.Q.S
open Go Go.Q Go.Proofs
theorem ki5 : H.ki ⟨5, 0, 0⟩ = some ⟨[(0, argSh ((H.ty 29).getD default)), (1, argSh ((H.ty 64).getD default))], [], [⟨.ret, [(0, .bool)], []⟩]⟩ := by kernel_rfl
theorem plain5 : plainB Tryz.prog H [3, 9, 22, 23, 25, 26, 27, 29, 30, 32, 33, 62, 64, 184, 187, 190, 240] = true := by kernel_rfl
end Go.Q.S
namespace Go.Proofs.YthlngiieofkmiaaGreat.fnExactPassesTest
open Go Go.Q Go.Q.S
open Go.ChangeShapes Go.WideShapes Go.ChangeAt Go.RowKit
open Go.ChangeMaps (open_string shut_string)
theorem own : ownKnob Tryz.prog.godebug = none := by kernel_rfl
theorem laid : laidOutB Tryz.prog = true := by kernel_rfl
set_option maxRecDepth 100000 in
theorem lifted (os : Os) (started : os.Started) (H : Type) (enc : TypeId × Value → H) :
    ReturnsInHanded {} Tryz.checked os 5 .any (Rows.fnExactPassesTestSpec.pre6 enc Tryz.prog Tryz.f5 Rows.fnExactPassesTestRow.domain false) (Rows.fnExactPassesTestSpec.post enc Tryz.prog Tryz.f5 false true false false) := by
  refine returnsInHanded_of_change_sized (C := Tryz.checked) own started (by kernel_rfl) Tryz.func5
    (ChangeSpec.witness6 (enc := enc) (C := Tryz.checked) false ⟨#[], #[.agg #[.slice none 0 0, .slice none 0 0, .slice none 0 0, .slice none 0 0], .agg #[.slice none 0 0, .int .i64 0, .int .i64 0, .string ByteArray.empty, .slice none 0 0, .int .i64 0, .int .i64 0, .string ByteArray.empty, .slice none 0 0, .int .i64 0]], []⟩ 8 (by kernel_rfl) (by kernel_rfl) (by kernel_rfl) (by kernel_rfl)) ?_
  intro W base args ds gs before hval0 hW hcnd hsz0 _
  have hval : ∀ (j : Nat) t v, Tryz.f5.params[j]? = some t → args[j]? = some v → Value.okWide Tryz.prog W .any base t v := hval0
  have hW' := hW
  obtain ⟨p, q, hA0, hV, rfl, hfz, hnd⟩ := hW
  have hA : DataW.TrodAll enc Tryz.prog W 0 (fun _ => true) true Tryz.f5.params.toList args.toList ds p := hA0
  rw [Tryz.params5] at hA hval
  obtain ⟨rfl, rfl⟩ := trodVars_none hV
  have hB := hA
  obtain ⟨v0, v1, d0, d1, p0, p1, rfl, rfl, hp, h0, h1⟩ := trodAll_two hA
  obtain ⟨dss, ha, hlen, hwl⟩ := args_data (H := Go.Q.S.H) fits.ty plain5 _ _ _ _ hB (by decide) (fun j t v h h' => hval j t v (by simpa using h) (by simpa using h'))
  obtain ⟨x0, x1, rfl⟩ : ∃ x0 x1, dss = [x0, x1] := by
    match dss, hlen with
    | [x0, x1], _ => exact ⟨x0, x1, rfl⟩
  obtain ⟨t0, e0, w0⟩ := hwl 0 _ _ rfl rfl
  rw [ty29] at e0
  obtain rfl := Option.some.inj e0
  obtain ⟨t1, e1, w1⟩ := hwl 1 _ _ rfl rfl
  rw [ty64] at e1
  obtain rfl := Option.some.inj e1
  refine (law_calls fits Tryz.func5 (by kernel_rfl) ki5 rfl rfl ha (b := true) (by show rn _ _ = _; simpa using law5 w0 w1)).mono fun e W' ⟨he, bel⟩ => ?_
  subst he
  exact ⟨_, rfl, _, _, _, [], p, _, hW', trodAll_mk1 (shut_bool Tryz.underlying4 _), trodAll_below laid _ _ _ _ (read_of (by kernel_rfl)) hB bel (fun z hz => hW'.lt z (by simp [hz])), rfl, bel.frame _, fun h => by cases h⟩
theorem over : Rows.fnExactPassesTestRow.holds Tryz.pinned (OpenSpec.ofChange Rows.fnExactPassesTestSpec) :=
  OpenClaim.holds_of_wide 5 Tryz.f5 rfl rfl rfl rfl rfl rfl rfl ⟨rfl, rfl, rfl, rfl, rfl⟩ rfl rfl rfl rfl rfl named Tryz.func5 closed
    (of_decide_eq_true (by kernel_rfl)) (by unfold Func.isWrapper; first | (rw [if_pos (by decide +kernel)]; kernel_rfl) | (rw [if_neg (by decide +kernel)]; exact ⟨rfl, rfl⟩))
    (fun os started H enc _ => lifted os started H enc)
theorem proved : Rows.FnExactPassesTestSaid := over
end Go.Proofs.YthlngiieofkmiaaGreat.fnExactPassesTest
namespace Go.Proofs.YthlngiieofkmiaaGreat
/-- The row, under a short name, for the claim. -/
theorem fnExactPassesTest_holds : Rows.FnExactPassesTestSaid := fnExactPassesTest.proved
end Go.Proofs.YthlngiieofkmiaaGreat
