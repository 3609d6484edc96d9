/- For all arguments the law FnExactReachesTerm answers true and leaves its arguments as they were; no condition. -/
import Derived.Test.YthlngiieofkmiaaGreatlI
import Derived.Test.YthlngiieofkmiaaGreatlP12
import Derived.Test.YthlngiieofkmiaaGreatlE5
import Derived.Test.YthlngiieofkmiaaGreatRows
import Derived.WalkKit
import Derived.ProofKit
import Derived.OpenShut
import Derived.ShutString
import Derived.ChangeOld
import Derived.Below
import Derived.SizedLaws
set_option linter.unusedVariables false
set_option linter.unusedSimpArgs false
namespace Go.Q.S
open Go Go.Q Go.Proofs

theorem law4c {a0 : Rows} {a1 : Rows} {a2 : Rows} {a3 : Rows} {a4 : Int} {a5 : Int} {a6 : ByteArray} {a7 : Rows} {a8 : Int} {a9 : Int} {a10 : ByteArray} {a11 : Rows} {a12 : Int} (w0 : WL H [.sl a0, .sl a1, .sl a2, .sl a3] L29) (w1 : WL H [.int a4, .int a5, .str a6, .sl a7] L32) (w2 : WL H [.int a8, .int a9, .str a10, .sl a11] L32) (w3 : WL H [.int a12] L3) : rn ⟨4, 0, 0⟩ [.sl a0, .sl a1, .sl a2, .sl a3, .int a4, .int a5, .str a6, .sl a7, .int a8, .int a9, .str a10, .sl a11, .int a12] = some (0, [.bool true]) := by
  have w0_ := w0
  have w1_ := w1
  have w2_ := w2
  show rn _ _ = _
  rw [e4_0_0]
  have e0 := s15 w0 bd20
  simp only [List.cons_append, List.nil_append] at e0
  simp only [e0, Option.bind_some, nth, List.getD_cons_zero, List.getD_cons_succ, D.I, D.S, D.L, D.B]
  by_cases n0 : (sub 1048576 (szL [.sl a0, .sl a1, .sl a2, .sl a3])) < 0
  · simp only [decide_eq_true n0, cond_true]
  have e1 := s23 _ _ (Nat.lt_succ_self _) w1 (sub 1048576 (szL [.sl a0, .sl a1, .sl a2, .sl a3])) (Bd.sub bd20 (szL [.sl a0, .sl a1, .sl a2, .sl a3]))
  simp only [List.cons_append, List.nil_append] at e1
  simp only [decide_eq_false n0, cond_false, e1, Option.bind_some, nth, List.getD_cons_zero, List.getD_cons_succ, D.I, D.S, D.L, D.B]
  by_cases n1 : (sub (sub 1048576 (szL [.sl a0, .sl a1, .sl a2, .sl a3])) (szL [.int a4, .int a5, .str a6, .sl a7])) < 0
  · simp only [decide_eq_true n1, cond_true]
  have e2 := s23 _ _ (Nat.lt_succ_self _) w2 (sub (sub 1048576 (szL [.sl a0, .sl a1, .sl a2, .sl a3])) (szL [.int a4, .int a5, .str a6, .sl a7])) (Bd.sub (Bd.sub bd20 (szL [.sl a0, .sl a1, .sl a2, .sl a3])) (szL [.int a4, .int a5, .str a6, .sl a7]))
  simp only [List.cons_append, List.nil_append] at e2
  simp only [decide_eq_false n1, cond_false, e2, Option.bind_some, nth, List.getD_cons_zero, List.getD_cons_succ, D.I, D.S, D.L, D.B]
  by_cases n2 : (sub (sub (sub 1048576 (szL [.sl a0, .sl a1, .sl a2, .sl a3])) (szL [.int a4, .int a5, .str a6, .sl a7])) (szL [.int a8, .int a9, .str a10, .sl a11])) < 0
  · simp only [decide_eq_true n2, cond_true]
  obtain ⟨m0, k0⟩ := sub_le n0
  obtain ⟨m1, k1⟩ := sub_le n1
  obtain ⟨m2, k2⟩ := sub_le n2
  have z0 : (szL [.sl a0, .sl a1, .sl a2, .sl a3]) ≤ 1048576 := by omega
  have zz0 := z0
  simp only [szL, D.sz] at zz0
  have z1 : (szL [.int a4, .int a5, .str a6, .sl a7]) ≤ 1048576 := by omega
  have zz1 := z1
  simp only [szL, D.sz] at zz1
  have z2 : (szL [.int a8, .int a9, .str a10, .sl a11]) ≤ 1048576 := by omega
  have zz2 := z2
  simp only [szL, D.sz] at zz2
  have u0 : WL H [.sl a0, .sl a1, .sl a2, .sl a3] L45 := WL.conv simR _ w0 (by kernel_rfl)
  obtain ⟨xx0, xx1, xx2, xx3, hh, bu0, cu0, bu1, cu1, bu2, cu2, bu3, cu3⟩ := wl45 u0
  simp only [List.cons.injEq, D.int.injEq, D.bool.injEq, D.str.injEq, D.sl.injEq, and_true] at hh
  obtain ⟨rfl, rfl, rfl, rfl⟩ := hh
  have x0 := c18 z0 w0
  skip
  have u1 : WL H [.int a4, .int a5, .str a6, .sl a7] L49 := WL.conv simR _ w1 (by kernel_rfl)
  obtain ⟨xx0, xx1, xx2, xx3, hh, bu6, bu7, cu7⟩ := wl49 u1
  simp only [List.cons.injEq, D.int.injEq, D.bool.injEq, D.str.injEq, D.sl.injEq, and_true] at hh
  obtain ⟨rfl, rfl, rfl, rfl⟩ := hh
  have x1 := c25 _ a4 a5 a6 a7 (Nat.lt_succ_self _) z1 w1
  skip
  have u2 : WL H [.int a8, .int a9, .str a10, .sl a11] L49 := WL.conv simR _ w2 (by kernel_rfl)
  obtain ⟨xx0, xx1, xx2, xx3, hh, bu10, bu11, cu11⟩ := wl49 u2
  simp only [List.cons.injEq, D.int.injEq, D.bool.injEq, D.str.injEq, D.sl.injEq, and_true] at hh
  obtain ⟨rfl, rfl, rfl, rfl⟩ := hh
  have x2 := c25 _ a8 a9 a10 a11 (Nat.lt_succ_self _) z2 w2
  skip
  have q0_ := q21 u0 u0
  simp only [eqb_refl, List.cons_append, List.nil_append] at q0_
  have q1_ := q27 _ _ _ (Nat.lt_succ_self _) u1 u1
  simp only [eqb_refl, List.cons_append, List.nil_append] at q1_
  have q2_ := q27 _ _ _ (Nat.lt_succ_self _) u2 u2
  simp only [eqb_refl, List.cons_append, List.nil_append] at q2_
  obtain ⟨d, rfl, rfl, rfl, rfl, hdb⟩ := def_of tmTy ty127 rfl ty9 rfl cu0 cu1 cu2 cu3 z0
  obtain ⟨t, ht_t, sm_t⟩ := tm_of tmTy _ [.int a4, .int a5, .str a6, .sl a7] (Nat.lt_succ_self _) (WL.part 0 4 u1) (by have := z1; simp only [szL, D.sz] at this ⊢; omega)
  have wl_t : WL H t.row L49 := ht_t ▸ WL.part 0 4 u1
  have nd_t := tm_nodes t
  have ct_t := tm_cntR t
  rw [← ht_t] at nd_t
  simp only [szL, D.sz] at nd_t
  rw [Tm.row_eq] at ht_t
  simp only [List.cons.injEq, D.int.injEq, D.str.injEq, D.sl.injEq, and_true] at ht_t
  obtain ⟨rfl, rfl, rfl, rfl⟩ := ht_t
  have wt_t := (wt_iff tmTy t).1 wl_t
  have hn_t : t.nodes ≤ 1048577 := by omega
  obtain ⟨u, ht_u, sm_u⟩ := tm_of tmTy _ [.int a8, .int a9, .str a10, .sl a11] (Nat.lt_succ_self _) (WL.part 0 4 u2) (by have := z2; simp only [szL, D.sz] at this ⊢; omega)
  have wl_u : WL H u.row L49 := ht_u ▸ WL.part 0 4 u2
  have nd_u := tm_nodes u
  have ct_u := tm_cntR u
  rw [← ht_u] at nd_u
  simp only [szL, D.sz] at nd_u
  rw [Tm.row_eq] at ht_u
  simp only [List.cons.injEq, D.int.injEq, D.str.injEq, D.sl.injEq, and_true] at ht_u
  obtain ⟨rfl, rfl, rfl, rfl⟩ := ht_u
  have wt_u := (wt_iff tmTy u).1 wl_u
  have hn_u : u.nodes ≤ 1048577 := by omega
  have xS := r24 d hdb t wt_t hn_t u a12
  have xI := r26 d hdb t wt_t hn_t u a12
  simp only [decide_eq_false n2, cond_false, x0, x1, x2, q0_, q1_, q2_, xS, xI, Option.bind_some, nth, List.getD_cons_zero, List.getD_cons_succ, D.I, D.S, D.L, D.B, List.nil_append, Bool.not_true, cond_false, cond_true, decide_true, beq_self_eq_true, Bool.not_false]
theorem law4 {x0 x1 x2 x3 : List D} (h0 : WL H x0 L29) (h1 : WL H x1 L32) (h2 : WL H x2 L32) (h3 : WL H x3 L3) : rn ⟨4, 0, 0⟩ (x0 ++ (x1 ++ (x2 ++ (x3)))) = some (0, [.bool true]) := by
  obtain ⟨a0, a1, a2, a3, rfl, _, _, _, _, _, _, _, _⟩ := wl29 h0
  obtain ⟨a4, a5, a6, a7, rfl, _, _, _⟩ := wl32 h1
  obtain ⟨a8, a9, a10, a11, rfl, _, _, _⟩ := wl32 h2
  obtain ⟨a12, rfl⟩ := wl3 h3
  exact law4c h0 h1 h2 h3
end Go.Q.S
namespace Go.Q.S
open Go Go.Q Go.Proofs
theorem ki4 : H.ki ⟨4, 0, 0⟩ = some ⟨[(0, argSh ((H.ty 29).getD default)), (1, argSh ((H.ty 32).getD default)), (2, argSh ((H.ty 32).getD default)), (3, argSh ((H.ty 3).getD default))], [], [⟨.ret, [(0, .bool)], []⟩]⟩ := by kernel_rfl
theorem plain4 : plainB Tryz.prog H [3, 9, 22, 23, 25, 26, 27, 29, 30, 32, 33, 184, 187, 190, 240] = true := by kernel_rfl
end Go.Q.S
namespace Go.Proofs.YthlngiieofkmiaaGreat.fnExactReachesTerm
open Go Go.Q Go.Q.S
open Go.ChangeShapes Go.WideShapes Go.ChangeAt Go.RowKit
open Go.ChangeMaps (open_string shut_string)
theorem own : ownKnob Tryz.prog.godebug = none := by kernel_rfl
theorem laid : laidOutB Tryz.prog = true := by kernel_rfl
set_option maxRecDepth 100000 in
theorem lifted (os : Os) (started : os.Started) (H : Type) (enc : TypeId × Value → H) :
    ReturnsInHanded {} Tryz.checked os 4 .any (Rows.fnExactReachesTermSpec.pre6 enc Tryz.prog Tryz.f4 Rows.fnExactReachesTermRow.domain false) (Rows.fnExactReachesTermSpec.post enc Tryz.prog Tryz.f4 false true false false) := by
  refine returnsInHanded_of_change_sized (C := Tryz.checked) own started (by kernel_rfl) Tryz.func4
    (ChangeSpec.witness6 (enc := enc) (C := Tryz.checked) false ⟨#[], #[.agg #[.slice none 0 0, .slice none 0 0, .slice none 0 0, .slice none 0 0], .agg #[.int .i64 0, .int .i64 0, .string ByteArray.empty, .slice none 0 0], .agg #[.int .i64 0, .int .i64 0, .string ByteArray.empty, .slice none 0 0], .int .i64 0], []⟩ 8 (by kernel_rfl) (by kernel_rfl) (by kernel_rfl) (by kernel_rfl)) ?_
  intro W base args ds gs before hval0 hW hcnd hsz0 _
  have hval : ∀ (j : Nat) t v, Tryz.f4.params[j]? = some t → args[j]? = some v → Value.okWide Tryz.prog W .any base t v := hval0
  have hW' := hW
  obtain ⟨p, q, hA0, hV, rfl, hfz, hnd⟩ := hW
  have hA : DataW.TrodAll enc Tryz.prog W 0 (fun _ => true) true Tryz.f4.params.toList args.toList ds p := hA0
  rw [Tryz.params4] at hA hval
  obtain ⟨rfl, rfl⟩ := trodVars_none hV
  have hB := hA
  obtain ⟨v0, v1, v2, v3, d0, d1, d2, d3, p0, p1, p2, p3, rfl, rfl, hp, h0, h1, h2, h3⟩ := trodAll_four hA
  obtain ⟨dss, ha, hlen, hwl⟩ := args_data (H := Go.Q.S.H) fits.ty plain4 _ _ _ _ hB (by decide) (fun j t v h h' => hval j t v (by simpa using h) (by simpa using h'))
  obtain ⟨x0, x1, x2, x3, rfl⟩ : ∃ x0 x1 x2 x3, dss = [x0, x1, x2, x3] := by
    match dss, hlen with
    | [x0, x1, x2, x3], _ => exact ⟨x0, x1, x2, x3, rfl⟩
  obtain ⟨t0, e0, w0⟩ := hwl 0 _ _ rfl rfl
  rw [ty29] at e0
  obtain rfl := Option.some.inj e0
  obtain ⟨t1, e1, w1⟩ := hwl 1 _ _ rfl rfl
  rw [ty32] at e1
  obtain rfl := Option.some.inj e1
  obtain ⟨t2, e2, w2⟩ := hwl 2 _ _ rfl rfl
  rw [ty32] at e2
  obtain rfl := Option.some.inj e2
  obtain ⟨t3, e3, w3⟩ := hwl 3 _ _ rfl rfl
  rw [ty3] at e3
  obtain rfl := Option.some.inj e3
  refine (law_calls fits Tryz.func4 (by kernel_rfl) ki4 rfl rfl ha (b := true) (by show rn _ _ = _; simpa using law4 w0 w1 w2 w3)).mono fun e W' ⟨he, bel⟩ => ?_
  subst he
  exact ⟨_, rfl, _, _, _, [], p, _, hW', trodAll_mk1 (shut_bool Tryz.underlying4 _), trodAll_below laid _ _ _ _ (read_of (by kernel_rfl)) hB bel (fun z hz => hW'.lt z (by simp [hz])), rfl, bel.frame _, fun h => by cases h⟩
theorem over : Rows.fnExactReachesTermRow.holds Tryz.pinned (OpenSpec.ofChange Rows.fnExactReachesTermSpec) :=
  OpenClaim.holds_of_wide 4 Tryz.f4 rfl rfl rfl rfl rfl rfl rfl ⟨rfl, rfl, rfl, rfl, rfl⟩ rfl rfl rfl rfl rfl named Tryz.func4 closed
    (of_decide_eq_true (by kernel_rfl)) (by unfold Func.isWrapper; first | (rw [if_pos (by decide +kernel)]; kernel_rfl) | (rw [if_neg (by decide +kernel)]; exact ⟨rfl, rfl⟩))
    (fun os started H enc _ => lifted os started H enc)
theorem proved : Rows.FnExactReachesTermSaid := over
end Go.Proofs.YthlngiieofkmiaaGreat.fnExactReachesTerm
namespace Go.Proofs.YthlngiieofkmiaaGreat
/-- The row, under a short name, for the claim. -/
theorem fnExactReachesTerm_holds : Rows.FnExactReachesTermSaid := fnExactReachesTerm.proved
end Go.Proofs.YthlngiieofkmiaaGreat
