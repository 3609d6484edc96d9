/- For all arguments the law FnExactStartOf answers true and leaves its arguments as they were; no condition. -/
import Derived.Test.YtboolhhmagjadaabI
import Derived.Test.YtboolhhmagjadaabP2
import Derived.Test.YtboolhhmagjadaaRows
import Derived.WalkKit
import Derived.ProofKit
import Derived.OpenShut
import Derived.ShutString
import Derived.ChangeOld
import Derived.Below
import Derived.SizedLaws
set_option linter.unusedVariables false
set_option linter.unusedSimpArgs false
namespace Go.Q.S
open Go Go.Q Go.Proofs

theorem law7c {a0 : Rows} {a1 : Int} {a2 : Int} {a3 : ByteArray} {a4 : Rows} {a5 : Int} {a6 : Int} {a7 : ByteArray} {a8 : Rows} {a9 : Rows} (w0 : WL H [.sl a0, .int a1, .int a2, .str a3, .sl a4, .int a5, .int a6, .str a7, .sl a8, .sl a9] L46) : rn ⟨7, 0, 0⟩ [.sl a0, .int a1, .int a2, .str a3, .sl a4, .int a5, .int a6, .str a7, .sl a8, .sl a9] = some (0, [.bool true]) := by
  have w0_ := w0
  show rn _ _ = _
  rw [e7_0_0]
  have e0 := s26 w0 bd20
  simp only [List.cons_append, List.nil_append] at e0
  simp only [e0, Option.bind_some, nth, List.getD_cons_zero, List.getD_cons_succ, D.I, D.S, D.L, D.B]
  by_cases n0 : (sub 1048576 (szL [.sl a0, .int a1, .int a2, .str a3, .sl a4, .int a5, .int a6, .str a7, .sl a8, .sl a9])) < 0
  · simp only [decide_eq_true n0, cond_true]
  obtain ⟨m0, k0⟩ := sub_le n0
  have z0 : (szL [.sl a0, .int a1, .int a2, .str a3, .sl a4, .int a5, .int a6, .str a7, .sl a8, .sl a9]) ≤ 1048576 := by omega
  have zz0 := z0
  simp only [szL, D.sz] at zz0
  have u0 : WL H [.sl a0, .int a1, .int a2, .str a3, .sl a4, .int a5, .int a6, .str a7, .sl a8, .sl a9] L53 := WL.conv simR _ w0 (by kernel_rfl)
  obtain ⟨xx0, xx1, xx2, xx3, xx4, xx5, xx6, xx7, xx8, xx9, hh, bu0, cu0, bu3, bu4, cu4, bu7, bu8, cu8, bu9, cu9⟩ := wl53 u0
  simp only [List.cons.injEq, D.int.injEq, D.bool.injEq, D.str.injEq, D.sl.injEq, and_true] at hh
  obtain ⟨rfl, rfl, rfl, rfl, rfl, rfl, rfl, rfl, rfl, rfl⟩ := hh
  have x0 := c28 z0 w0
  skip
  have q0_ := q31 u0 u0
  simp only [eqb_refl, List.cons_append, List.nil_append] at q0_
  have i0 := (cnt_sz wide64 _).1 _ _ (Nat.lt_succ_self _) w0
  simp only [cntL, cntD, List.length_cons, List.length_nil] at i0
  have mk0 := mT32_1 a0 a1 a2 a3 a4 a5 a6 a7 a8 a9 u0 (k := 1) (by omega) (by unfold BK; omega)
  skip
  have nk := int_lt_zero (show 0 < 1 + (cntR a0 : Int) + (cntR a4 : Int) + (cntR a8 : Int) + (cntR a9 : Int) by omega)
  obtain ⟨vars, rfl⟩ := strs_of' cu0
  obtain ⟨tl, ht_tl, sm_tl⟩ := tm_of tmTy _ [.int a1, .int a2, .str a3, .sl a4] (Nat.lt_succ_self _) (WL.part 1 4 u0) (by have := z0; simp only [szL, D.sz] at this ⊢; omega)
  have wl_tl : WL H tl.row L50 := ht_tl ▸ WL.part 1 4 u0
  have nd_tl := tm_nodes tl
  have ct_tl := tm_cntR tl
  rw [← ht_tl] at nd_tl
  simp only [szL, D.sz] at nd_tl
  rw [Tm.row_eq] at ht_tl
  simp only [List.cons.injEq, D.int.injEq, D.str.injEq, D.sl.injEq, and_true] at ht_tl
  obtain ⟨rfl, rfl, rfl, rfl⟩ := ht_tl
  obtain ⟨tr, ht_tr, sm_tr⟩ := tm_of tmTy _ [.int a5, .int a6, .str a7, .sl a8] (Nat.lt_succ_self _) (WL.part 5 4 u0) (by have := z0; simp only [szL, D.sz] at this ⊢; omega)
  have wl_tr : WL H tr.row L50 := ht_tr ▸ WL.part 5 4 u0
  have nd_tr := tm_nodes tr
  have ct_tr := tm_cntR tr
  rw [← ht_tr] at nd_tr
  simp only [szL, D.sz] at nd_tr
  rw [Tm.row_eq] at ht_tr
  simp only [List.cons.injEq, D.int.injEq, D.str.injEq, D.sl.injEq, and_true] at ht_tr
  obtain ⟨rfl, rfl, rfl, rfl⟩ := ht_tr
  obtain ⟨gs, rfl, hgs⟩ := gus_of tmTy cu9 (by omega)
  simp only [List.length_map] at bu0 bu9 zz0
  have xS := r53 vars (by omega) tl tr sm_tl gs (by omega) (fun g hg => (hgs g hg).1)
  have xI := r54 vars (by omega) tl tr sm_tl gs (by omega) (fun g hg => (hgs g hg).1)
  obtain ⟨o1, o2, o3, o4, o5⟩ := (wl_row tmTy tl).1 wl_tl
  have hcl := allC_len vars gs
  have hcs := allC_ok vars gs
  have wR0 : WL H [.sl (vars.map sRow), .int tl.k, .int tl.n, .str tl.s, .sl (tl.as.map Tm.row), .sl ((allC vars gs).map nRow)] L72 := wlc_sl ty9 (by simp; omega) cu0 (wlc_int o1 (wlc_int o2 (wlc_str o3 (wlc_sl ty50 (by simpa using o4) (wrs_map.2 o5) (wlc_sl ty3 (by simp; unfold maxLen; omega) (wrs_map.2 fun x hx => wlc_int (hcs x hx) wlc_nil) wlc_nil)))))
  have ctC : cntR ((allC vars gs).map nRow) = (allC vars gs).length := cntR_nrow _
  have ctV := cntR_strs vars
  have qR0 := q49 wR0 wR0
  simp only [eqb_refl, List.cons_append, List.nil_append] at qR0
  have mR0 := mT50_1 (vars.map sRow) (tl.k) (tl.n) (tl.s) (tl.as.map Tm.row) ((allC vars gs).map nRow) wR0 (k := 1) (by omega) (by unfold BK; omega)
  skip
  have hR0 := hT55_0 (vars.map sRow) (tl.k) (tl.n) (tl.s) (tl.as.map Tm.row) ((allC vars gs).map nRow) wR0 (k := 1) (by omega) (by unfold BK; omega)
  skip
  have nR0 := int_lt_zero (show 0 < 1 + (cntR (vars.map sRow) : Int) + (cntR (tl.as.map Tm.row) : Int) + (cntR ((allC vars gs).map nRow) : Int) by omega)
  simp only [decide_eq_false n0, cond_false, x0, q0_, mk0, nk, xS, xI, qR0, mR0, hR0, nR0, Option.bind_some, nth, List.getD_cons_zero, List.getD_cons_succ, D.I, D.S, D.L, D.B, List.nil_append, Bool.not_true, cond_false, cond_true, decide_true, beq_self_eq_true, Bool.not_false]
theorem law7 {x0 : List D} (h0 : WL H x0 L46) : rn ⟨7, 0, 0⟩ (x0) = some (0, [.bool true]) := by
  obtain ⟨a0, a1, a2, a3, a4, a5, a6, a7, a8, a9, rfl, _, _, _, _, _, _, _, _, _, _⟩ := wl46 h0
  exact law7c h0
end Go.Q.S
namespace Go.Q.S
open Go Go.Q Go.Proofs
theorem ki7 : H.ki ⟨7, 0, 0⟩ = some ⟨[(0, argSh ((H.ty 46).getD default))], [], [⟨.ret, [(0, .bool)], []⟩]⟩ := by kernel_rfl
theorem plain7 : plainB Try.prog H [3, 9, 30, 41, 43, 44, 46, 177] = true := by kernel_rfl
end Go.Q.S
namespace Go.Proofs.Ytboolhhmagjadaa.fnExactStartOf
open Go Go.Q Go.Q.S
open Go.ChangeShapes Go.WideShapes Go.ChangeAt Go.RowKit
open Go.ChangeMaps (open_string shut_string)
theorem own : ownKnob Try.prog.godebug = none := by kernel_rfl
theorem laid : laidOutB Try.prog = true := by kernel_rfl
set_option maxRecDepth 100000 in
theorem lifted (os : Os) (started : os.Started) (H : Type) (enc : TypeId × Value → H) :
    ReturnsInHanded {} Try.checked os 7 .any (Rows.fnExactStartOfSpec.pre6 enc Try.prog Try.f7 Rows.fnExactStartOfRow.domain false) (Rows.fnExactStartOfSpec.post enc Try.prog Try.f7 false true false false) := by
  refine returnsInHanded_of_change_sized (C := Try.checked) own started (by kernel_rfl) Try.func7
    (ChangeSpec.witness6 (enc := enc) (C := Try.checked) false ⟨#[], #[.agg #[.slice none 0 0, .int .i64 0, .int .i64 0, .string ByteArray.empty, .slice none 0 0, .int .i64 0, .int .i64 0, .string ByteArray.empty, .slice none 0 0, .slice none 0 0]], []⟩ 8 (by kernel_rfl) (by kernel_rfl) (by kernel_rfl) (by kernel_rfl)) ?_
  intro W base args ds gs before hval0 hW hcnd hsz0 _
  have hval : ∀ (j : Nat) t v, Try.f7.params[j]? = some t → args[j]? = some v → Value.okWide Try.prog W .any base t v := hval0
  have hW' := hW
  obtain ⟨p, q, hA0, hV, rfl, hfz, hnd⟩ := hW
  have hA : DataW.TrodAll enc Try.prog W 0 (fun _ => true) true Try.f7.params.toList args.toList ds p := hA0
  rw [Try.params7] at hA hval
  obtain ⟨rfl, rfl⟩ := trodVars_none hV
  have hB := hA
  obtain ⟨v0, d0, rfl, rfl, h0⟩ := trodAll_one hA
  obtain ⟨dss, ha, hlen, hwl⟩ := args_data (H := Go.Q.S.H) fits.ty plain7 _ _ _ _ hB (by decide) (fun j t v h h' => hval j t v (by simpa using h) (by simpa using h'))
  obtain ⟨x0, rfl⟩ : ∃ x0, dss = [x0] := by
    match dss, hlen with
    | [x0], _ => exact ⟨x0, rfl⟩
  obtain ⟨t0, e0, w0⟩ := hwl 0 _ _ rfl rfl
  rw [ty46] at e0
  obtain rfl := Option.some.inj e0
  refine (law_calls fits Try.func7 (by kernel_rfl) ki7 rfl rfl ha (b := true) (by show rn _ _ = _; simpa using law7 w0)).mono fun e W' ⟨he, bel⟩ => ?_
  subst he
  exact ⟨_, rfl, _, _, _, [], p, _, hW', trodAll_mk1 (shut_bool Try.underlying4 _), trodAll_below laid _ _ _ _ (read_of (by kernel_rfl)) hB bel (fun z hz => hW'.lt z (by simp [hz])), rfl, bel.frame _, fun h => by cases h⟩
theorem over : Rows.fnExactStartOfRow.holds Try.pinned (OpenSpec.ofChange Rows.fnExactStartOfSpec) :=
  OpenClaim.holds_of_wide 7 Try.f7 rfl rfl rfl rfl rfl rfl rfl ⟨rfl, rfl, rfl, rfl, rfl⟩ rfl rfl rfl rfl rfl (by kernel_rfl) Try.func7 (by kernel_rfl)
    (of_decide_eq_true (by kernel_rfl)) (by unfold Func.isWrapper; first | (rw [if_pos (by decide +kernel)]; kernel_rfl) | (rw [if_neg (by decide +kernel)]; exact ⟨rfl, rfl⟩))
    (fun os started H enc _ => lifted os started H enc)
theorem proved : Rows.FnExactStartOfSaid := over
end Go.Proofs.Ytboolhhmagjadaa.fnExactStartOf
namespace Go.Proofs.Ytboolhhmagjadaa
/-- The row, under a short name, for the claim. -/
theorem fnExactStartOf_holds : Rows.FnExactStartOfSaid := fnExactStartOf.proved
end Go.Proofs.Ytboolhhmagjadaa
