/- For all arguments the law FnExactTranslateTerm answers true and leaves its arguments as they were; no condition. -/
import Derived.Test.YthlngiieofkmiaaGreatnI
import Derived.Test.YthlngiieofkmiaaGreatnP13
import Derived.Test.YthlngiieofkmiaaGreatnE5
import Derived.Test.YthlngiieofkmiaaGreatRows
import Derived.WalkKit
import Derived.ProofKit
import Derived.OpenShut
import Derived.ShutString
import Derived.ChangeOld
import Derived.Below
import Derived.SizedLaws
set_option linter.unusedVariables false
set_option linter.unusedSimpArgs false
namespace Go.Q.S
open Go Go.Q Go.Proofs

theorem law7c {a0 : Rows} {a1 : Rows} {a2 : Rows} {a3 : Rows} {a4 : Int} {a5 : Int} {a6 : ByteArray} {a7 : Rows} {a8 : ByteArray} (w0 : WL H [.sl a0, .sl a1, .sl a2, .sl a3] L29) (w1 : WL H [.int a4, .int a5, .str a6, .sl a7] L32) (w2 : WL H [.str a8] L9) : rn ⟨7, 0, 0⟩ [.sl a0, .sl a1, .sl a2, .sl a3, .int a4, .int a5, .str a6, .sl a7, .str a8] = some (0, [.bool true]) := by
  have w0_ := w0
  have w1_ := w1
  show rn _ _ = _
  rw [e7_0_0]
  have w2_ := w2
  by_cases nS8 : (1048576 : Int) < (a8.size : Int)
  · rw [decide_eq_true nS8, cond_true]
  rw [decide_eq_false nS8, cond_false]
  have e0 := s15 w0 bd20
  simp only [List.cons_append, List.nil_append] at e0
  simp only [e0, Option.bind_some, nth, List.getD_cons_zero, List.getD_cons_succ, D.I, D.S, D.L, D.B]
  by_cases n0 : (sub 1048576 (szL [.sl a0, .sl a1, .sl a2, .sl a3])) < 0
  · simp only [decide_eq_true n0, cond_true]
  have e1 := s23 _ _ (Nat.lt_succ_self _) w1 (sub 1048576 (szL [.sl a0, .sl a1, .sl a2, .sl a3])) (Bd.sub bd20 (szL [.sl a0, .sl a1, .sl a2, .sl a3]))
  simp only [List.cons_append, List.nil_append] at e1
  simp only [decide_eq_false n0, cond_false, e1, Option.bind_some, nth, List.getD_cons_zero, List.getD_cons_succ, D.I, D.S, D.L, D.B]
  by_cases n1 : (sub (sub 1048576 (szL [.sl a0, .sl a1, .sl a2, .sl a3])) (szL [.int a4, .int a5, .str a6, .sl a7])) < 0
  · simp only [decide_eq_true n1, cond_true]
  obtain ⟨m0, k0⟩ := sub_le n0
  obtain ⟨m1, k1⟩ := sub_le n1
  have z0 : (szL [.sl a0, .sl a1, .sl a2, .sl a3]) ≤ 1048576 := by omega
  have zz0 := z0
  simp only [szL, D.sz] at zz0
  have z1 : (szL [.int a4, .int a5, .str a6, .sl a7]) ≤ 1048576 := by omega
  have zz1 := z1
  simp only [szL, D.sz] at zz1
  have u0 : WL H [.sl a0, .sl a1, .sl a2, .sl a3] L45 := WL.conv simR _ w0 (by kernel_rfl)
  obtain ⟨xx0, xx1, xx2, xx3, hh, bu0, cu0, bu1, cu1, bu2, cu2, bu3, cu3⟩ := wl45 u0
  simp only [List.cons.injEq, D.int.injEq, D.bool.injEq, D.str.injEq, D.sl.injEq, and_true] at hh
  obtain ⟨rfl, rfl, rfl, rfl⟩ := hh
  have x0 := c18 z0 w0
  skip
  have u1 : WL H [.int a4, .int a5, .str a6, .sl a7] L49 := WL.conv simR _ w1 (by kernel_rfl)
  obtain ⟨xx0, xx1, xx2, xx3, hh, bu6, bu7, cu7⟩ := wl49 u1
  simp only [List.cons.injEq, D.int.injEq, D.bool.injEq, D.str.injEq, D.sl.injEq, and_true] at hh
  obtain ⟨rfl, rfl, rfl, rfl⟩ := hh
  have x1 := c25 _ a4 a5 a6 a7 (Nat.lt_succ_self _) z1 w1
  skip
  have q0_ := q21 u0 u0
  simp only [eqb_refl, List.cons_append, List.nil_append] at q0_
  have q1_ := q27 _ _ _ (Nat.lt_succ_self _) u1 u1
  simp only [eqb_refl, List.cons_append, List.nil_append] at q1_
  have i0 := (cnt_sz wide64 _).1 _ _ (Nat.lt_succ_self _) w0
  simp only [cntL, cntD, List.length_cons, List.length_nil] at i0
  have i1 := (cnt_sz wide64 _).1 _ _ (Nat.lt_succ_self _) w1
  simp only [cntL, cntD, List.length_cons, List.length_nil] at i1
  have mk0 := mT36_1 a0 a1 a2 a3 u0 (k := 1) (by omega) (by unfold BK; omega)
  skip
  have mk1 := mT37_1 a4 a5 a6 a7 u1 (k := 1 + (cntR a0 : Int) + (cntR a1 : Int) + (cntR a2 : Int) + (cntR a3 : Int)) (by omega) (by unfold BK; omega)
  skip
  have nk := int_lt_zero (show 0 < 1 + (cntR a0 : Int) + (cntR a1 : Int) + (cntR a2 : Int) + (cntR a3 : Int) + (cntR a7 : Int) by omega)
  obtain ⟨d, rfl, rfl, rfl, rfl, hdb⟩ := def_of tmTy ty127 rfl ty9 rfl cu0 cu1 cu2 cu3 z0
  obtain ⟨t, ht_t, sm_t⟩ := tm_of tmTy _ [.int a4, .int a5, .str a6, .sl a7] (Nat.lt_succ_self _) (WL.part 0 4 u1) (by have := z1; simp only [szL, D.sz] at this ⊢; omega)
  have wl_t : WL H t.row L49 := ht_t ▸ WL.part 0 4 u1
  have nd_t := tm_nodes t
  have ct_t := tm_cntR t
  rw [← ht_t] at nd_t
  simp only [szL, D.sz] at nd_t
  rw [Tm.row_eq] at ht_t
  simp only [List.cons.injEq, D.int.injEq, D.str.injEq, D.sl.injEq, and_true] at ht_t
  obtain ⟨rfl, rfl, rfl, rfl⟩ := ht_t
  have wt_t := (wt_iff tmTy t).1 wl_t
  have hn_t : t.nodes ≤ 1048577 := by omega
  obtain ⟨_, _, e8, hs8, _⟩ := wl_str w2_
  simp only [List.cons.injEq, D.str.injEq] at e8
  rw [← e8.1] at hs8
  have xS := r40 d hdb t wt_t hn_t a8 hs8
  have xI := r41 d hdb t wt_t hn_t a8 hs8
  have gR := tr_ok hdb wt_t hs8
  generalize trT d t a8 = R at xS xI gR
  obtain ⟨gw, gn⟩ := gR
  unfold trR at xS xI
  have wR0 : WL H (trU R).row L49 := (wt_iff tmTy _).2 gw
  rw [Tm.row_eq] at wR0
  have ctR := tm_cntR (trU R)
  have qR0 := q27 _ _ _ (Nat.lt_succ_self _) wR0 wR0
  simp only [eqb_refl, List.cons_append, List.nil_append] at qR0
  have mR0 := mT37_1 ((trU R).k) ((trU R).n) ((trU R).s) ((trU R).as.map Tm.row) wR0 (k := 1) (by omega) (by unfold BK; omega)
  skip
  have hR0 := hT42_0 ((trU R).k) ((trU R).n) ((trU R).s) ((trU R).as.map Tm.row) wR0 (k := 1) (by omega) (by unfold BK; omega)
  skip
  have nR0 := int_lt_zero (show 0 < 1 + (cntR ((trU R).as.map Tm.row) : Int) by omega)
  simp only [decide_eq_false n1, cond_false, x0, x1, q0_, q1_, mk0, mk1, nk, xS, xI, qR0, mR0, hR0, nR0, Option.bind_some, nth, List.getD_cons_zero, List.getD_cons_succ, D.I, D.S, D.L, D.B, List.nil_append, Bool.not_true, cond_false, cond_true, decide_true, beq_self_eq_true, Bool.not_false]
theorem law7 {x0 x1 x2 : List D} (h0 : WL H x0 L29) (h1 : WL H x1 L32) (h2 : WL H x2 L9) : rn ⟨7, 0, 0⟩ (x0 ++ (x1 ++ (x2))) = some (0, [.bool true]) := by
  obtain ⟨a0, a1, a2, a3, rfl, _, _, _, _, _, _, _, _⟩ := wl29 h0
  obtain ⟨a4, a5, a6, a7, rfl, _, _, _⟩ := wl32 h1
  obtain ⟨a8, rfl, _⟩ := wl9 h2
  exact law7c h0 h1 h2
end Go.Q.S
namespace Go.Q.S
open Go Go.Q Go.Proofs
theorem ki7 : H.ki ⟨7, 0, 0⟩ = some ⟨[(0, argSh ((H.ty 29).getD default)), (1, argSh ((H.ty 32).getD default)), (2, argSh ((H.ty 9).getD default))], [], [⟨.ret, [(0, .bool)], []⟩]⟩ := by kernel_rfl
theorem plain7 : plainB Tryz.prog H [3, 9, 22, 23, 25, 26, 27, 29, 30, 32, 33, 184, 187, 190, 240] = true := by kernel_rfl
end Go.Q.S
namespace Go.Proofs.YthlngiieofkmiaaGreat.fnExactTranslateTerm
open Go Go.Q Go.Q.S
open Go.ChangeShapes Go.WideShapes Go.ChangeAt Go.RowKit
open Go.ChangeMaps (open_string shut_string)
theorem own : ownKnob Tryz.prog.godebug = none := by kernel_rfl
theorem laid : laidOutB Tryz.prog = true := by kernel_rfl
set_option maxRecDepth 100000 in
theorem lifted (os : Os) (started : os.Started) (H : Type) (enc : TypeId × Value → H) :
    ReturnsInHanded {} Tryz.checked os 7 .any (Rows.fnExactTranslateTermSpec.pre6 enc Tryz.prog Tryz.f7 Rows.fnExactTranslateTermRow.domain false) (Rows.fnExactTranslateTermSpec.post enc Tryz.prog Tryz.f7 false true false false) := by
  refine returnsInHanded_of_change_sized (C := Tryz.checked) own started (by kernel_rfl) Tryz.func7
    (ChangeSpec.witness6 (enc := enc) (C := Tryz.checked) false ⟨#[], #[.agg #[.slice none 0 0, .slice none 0 0, .slice none 0 0, .slice none 0 0], .agg #[.int .i64 0, .int .i64 0, .string ByteArray.empty, .slice none 0 0], .string ByteArray.empty], []⟩ 8 (by kernel_rfl) (by kernel_rfl) (by kernel_rfl) (by kernel_rfl)) ?_
  intro W base args ds gs before hval0 hW hcnd hsz0 _
  have hval : ∀ (j : Nat) t v, Tryz.f7.params[j]? = some t → args[j]? = some v → Value.okWide Tryz.prog W .any base t v := hval0
  have hW' := hW
  obtain ⟨p, q, hA0, hV, rfl, hfz, hnd⟩ := hW
  have hA : DataW.TrodAll enc Tryz.prog W 0 (fun _ => true) true Tryz.f7.params.toList args.toList ds p := hA0
  rw [Tryz.params7] at hA hval
  obtain ⟨rfl, rfl⟩ := trodVars_none hV
  have hB := hA
  obtain ⟨v0, v1, v2, d0, d1, d2, p0, p1, p2, rfl, rfl, hp, h0, h1, h2⟩ := trodAll_three hA
  obtain ⟨dss, ha, hlen, hwl⟩ := args_data (H := Go.Q.S.H) fits.ty plain7 _ _ _ _ hB (by decide) (fun j t v h h' => hval j t v (by simpa using h) (by simpa using h'))
  obtain ⟨x0, x1, x2, rfl⟩ : ∃ x0 x1 x2, dss = [x0, x1, x2] := by
    match dss, hlen with
    | [x0, x1, x2], _ => exact ⟨x0, x1, x2, rfl⟩
  obtain ⟨t0, e0, w0⟩ := hwl 0 _ _ rfl rfl
  rw [ty29] at e0
  obtain rfl := Option.some.inj e0
  obtain ⟨t1, e1, w1⟩ := hwl 1 _ _ rfl rfl
  rw [ty32] at e1
  obtain rfl := Option.some.inj e1
  obtain ⟨t2, e2, w2⟩ := hwl 2 _ _ rfl rfl
  rw [ty9] at e2
  obtain rfl := Option.some.inj e2
  refine (law_calls fits Tryz.func7 (by kernel_rfl) ki7 rfl rfl ha (b := true) (by show rn _ _ = _; simpa using law7 w0 w1 w2)).mono fun e W' ⟨he, bel⟩ => ?_
  subst he
  exact ⟨_, rfl, _, _, _, [], p, _, hW', trodAll_mk1 (shut_bool Tryz.underlying4 _), trodAll_below laid _ _ _ _ (read_of (by kernel_rfl)) hB bel (fun z hz => hW'.lt z (by simp [hz])), rfl, bel.frame _, fun h => by cases h⟩
theorem over : Rows.fnExactTranslateTermRow.holds Tryz.pinned (OpenSpec.ofChange Rows.fnExactTranslateTermSpec) :=
  OpenClaim.holds_of_wide 7 Tryz.f7 rfl rfl rfl rfl rfl rfl rfl ⟨rfl, rfl, rfl, rfl, rfl⟩ rfl rfl rfl rfl rfl named Tryz.func7 closed
    (of_decide_eq_true (by kernel_rfl)) (by unfold Func.isWrapper; first | (rw [if_pos (by decide +kernel)]; kernel_rfl) | (rw [if_neg (by decide +kernel)]; exact ⟨rfl, rfl⟩))
    (fun os started H enc _ => lifted os started H enc)
theorem proved : Rows.FnExactTranslateTermSaid := over
end Go.Proofs.YthlngiieofkmiaaGreat.fnExactTranslateTerm
namespace Go.Proofs.YthlngiieofkmiaaGreat
/-- The row, under a short name, for the claim. -/
theorem fnExactTranslateTerm_holds : Rows.FnExactTranslateTermSaid := fnExactTranslateTerm.proved
end Go.Proofs.YthlngiieofkmiaaGreat
