/- For all arguments the law FnExactOpenCases answers true and leaves its arguments as they were; no condition. -/
import Derived.Test.YtboolhhmagjadaacI
import Derived.Test.YtboolhhmagjadaaRows
import Derived.WalkKit
import Derived.ProofKit
import Derived.OpenShut
import Derived.ShutString
import Derived.ChangeOld
import Derived.Below
import Derived.SizedLaws
set_option linter.unusedVariables false
set_option linter.unusedSimpArgs false
namespace Go.Q.S
open Go Go.Q Go.Proofs

theorem fits : Fits Try.prog H where
  ty := tyOK_of (l := tyL) (fun _ => rfl) (by kernel_rfl)
  eq := eqOK_of (l := eqL) (fun _ => rfl) (by kernel_rfl)
  mixed := Try.checked.mixed
  names := names_of (by kernel_rfl)
  ext := fun f g h => by simp [H] at h
noncomputable def ocP (cv : List ByteArray) (cr : Tm) (sv : List ByteArray) (st : Tm) (c : Int) : Bool := !eqb (instR sv st c).row (instR cv cr c).row
noncomputable def ocR (cv : List ByteArray) (cr : Tm) (sv : List ByteArray) (st : Tm) (cs : List Int) : List Int := bif cs.all (isC sv.length) then cs.filter (ocP cv cr sv st) else []
theorem r47 (cv : List ByteArray) (cl cr : Tm) (hcr : Small cr) (gs : Rows) (sv : List ByteArray) (st : Tm) (hst : Small st) (cs : List Int) (hl : cs.length ≤ maxLen) (hl2 : cs.length ≤ 1048576) : rn ⟨47, 0, 0⟩ [.sl (cv.map sRow), .int cl.k, .int cl.n, .str cl.s, .sl (cl.as.map Tm.row), .int cr.k, .int cr.n, .str cr.s, .sl (cr.as.map Tm.row), .sl gs, .sl (sv.map sRow), .int st.k, .int st.n, .str st.s, .sl (st.as.map Tm.row), .sl (cs.map iRow)] = some (0, [.sl ((ocR cv cr sv st cs).map iRow)]) := by
  show run H Try.prog _ _ = _
  rw [run_eq, g47_0_0_eq, g47_0_0]
  have hf := oc_loop (F := fun i acc => run H Try.prog ⟨47, 0, 1⟩ [.sl (cs.map iRow), .int (cs.map iRow).length, .int (i : Int), .sl (cv.map sRow), .int cl.k, .int cl.n, .str cl.s, .sl (cl.as.map Tm.row), .int cr.k, .int cr.n, .str cr.s, .sl (cr.as.map Tm.row), .sl gs, .sl (sv.map sRow), .int st.k, .int st.n, .str st.s, .sl (st.as.map Tm.row), .sl (cs.map iRow), .sl acc]) (xs := cs) (g := iRow) (ok := isC sv.length) (p := ocP cv cr sv st) (A := fun acc => some (0, [.sl acc])) (B := some (1, [.sl []])) (fun i hi acc ha => by
    have e1 := r99 sv st hst (cs.map iRow) cs[i]
    have e2 := r29 cv cl cr hcr gs cs[i]
    have e3 := r113 (instR sv st cs[i]) (instR cv cr cs[i]) (instR_small hst _)
    simp only [rn] at e1 e2 e3
    rw [run_eq, g47_0_1_eq, g47_0_1]
    simp only [List.length_map, inbN, hi, decide_true, cond_true, Int.toNat_natCast, rowAt_map hi, iRow, nth, List.getD_cons_zero, List.getD_cons_succ, D.I, D.S, D.L, D.B, Int.ofNat_lt]
    simp only [e1, e2, e3, Option.bind_some, nth, List.getD_cons_zero, List.getD_cons_succ, D.I, D.S, D.L, D.B, ocP, List.length_cons, List.length_nil, wrap_succ hi hl]
    rw [show Nat.ble (acc.length + (0 + 1)) M63 = true from Nat.ble_eq_true_of_le (by unfold M63; omega)]
    cases isC sv.length cs[i] <;> cases eqb (instR sv st cs[i]).row (instR cv cr cs[i]).row <;> rfl) (fun acc => by
    rw [run_eq, g47_0_1_eq, g47_0_1]
    simp only [List.length_map, Int.ofNat_lt, Nat.lt_irrefl, decide_false, cond_false])
  rw [Int.natCast_zero] at hf
  simp only [hf, ocR]
  cases cs.all (isC sv.length) <;> rfl
theorem r45 (cv : List ByteArray) (cl cr : Tm) (hcr : Small cr) (gs : Rows) (sv : List ByteArray) (st : Tm) (hst : Small st) (cs : List Int) (hl : cs.length ≤ maxLen) (hl2 : cs.length ≤ 1048576) : rn ⟨45, 0, 0⟩ [.sl (cv.map sRow), .int cl.k, .int cl.n, .str cl.s, .sl (cl.as.map Tm.row), .int cr.k, .int cr.n, .str cr.s, .sl (cr.as.map Tm.row), .sl gs, .sl (sv.map sRow), .int st.k, .int st.n, .str st.s, .sl (st.as.map Tm.row), .sl (cs.map iRow)] = some (0, [.sl ((ocR cv cr sv st cs).map iRow)]) := by
  show run H Try.prog _ _ = _
  rw [run_eq, g45_0_0_eq, g45_0_0]
  have hf := oc_loop (F := fun i acc => run H Try.prog ⟨45, 0, 1⟩ [.int (i : Int), .sl (cv.map sRow), .int cl.k, .int cl.n, .str cl.s, .sl (cl.as.map Tm.row), .int cr.k, .int cr.n, .str cr.s, .sl (cr.as.map Tm.row), .sl gs, .sl (sv.map sRow), .int st.k, .int st.n, .str st.s, .sl (st.as.map Tm.row), .sl (cs.map iRow), .sl acc]) (xs := cs) (g := iRow) (ok := isC sv.length) (p := ocP cv cr sv st) (A := fun acc => some (0, [.sl acc])) (B := some (1, [.sl []])) (fun i hi acc ha => by
    have e1 := r95 sv st hst (cs.map iRow) cs[i]
    have e2 := r27 cv cl cr hcr gs cs[i]
    have e3 := r61 (instR sv st cs[i]) (instR cv cr cs[i]) (instR_small hst _)
    simp only [rn] at e1 e2 e3
    rw [run_eq, g45_0_1_eq, g45_0_1]
    simp only [List.length_map, inbN, hi, decide_true, cond_true, Int.toNat_natCast, rowAt_map hi, iRow, nth, List.getD_cons_zero, List.getD_cons_succ, D.I, D.S, D.L, D.B, Int.ofNat_lt]
    simp only [e1, e2, e3, Option.bind_some, nth, List.getD_cons_zero, List.getD_cons_succ, D.I, D.S, D.L, D.B, ocP, List.length_cons, List.length_nil, wrap_succ hi hl]
    rw [show Nat.ble (acc.length + (0 + 1)) M63 = true from Nat.ble_eq_true_of_le (by unfold M63; omega)]
    cases isC sv.length cs[i] <;> cases eqb (instR sv st cs[i]).row (instR cv cr cs[i]).row <;> rfl) (fun acc => by
    rw [run_eq, g45_0_1_eq, g45_0_1]
    simp only [List.length_map, Int.ofNat_lt, Nat.lt_irrefl, decide_false, cond_false])
  rw [Int.natCast_zero] at hf
  simp only [hf, ocR]
  cases cs.all (isC sv.length) <;> rfl
theorem law6c {a0 : Rows} {a1 : Int} {a2 : Int} {a3 : ByteArray} {a4 : Rows} {a5 : Int} {a6 : Int} {a7 : ByteArray} {a8 : Rows} {a9 : Rows} {a10 : Rows} {a11 : Int} {a12 : Int} {a13 : ByteArray} {a14 : Rows} {a15 : Rows} (w0 : WL H [.sl a0, .int a1, .int a2, .str a3, .sl a4, .int a5, .int a6, .str a7, .sl a8, .sl a9] L46) (w1 : WL H [.sl a10, .int a11, .int a12, .str a13, .sl a14, .sl a15] L62) : rn ⟨6, 0, 0⟩ [.sl a0, .int a1, .int a2, .str a3, .sl a4, .int a5, .int a6, .str a7, .sl a8, .sl a9, .sl a10, .int a11, .int a12, .str a13, .sl a14, .sl a15] = some (0, [.bool true]) := by
  have w0_ := w0
  have w1_ := w1
  show run H Try.prog _ _ = _
  rw [run_eq, g6_0_0_eq, g6_0_0]
  have e0 := s26 w0 bd20
  simp only [rn, List.cons_append, List.nil_append] at e0
  simp only [e0, Option.bind_some, nth, List.getD_cons_zero, List.getD_cons_succ, D.I, D.S, D.L, D.B]
  by_cases n0 : (sub 1048576 (szL [.sl a0, .int a1, .int a2, .str a3, .sl a4, .int a5, .int a6, .str a7, .sl a8, .sl a9])) < 0
  · simp only [decide_eq_true n0, cond_true]
  have e1 := s44 w1 (Bd.sub bd20 (szL [.sl a0, .int a1, .int a2, .str a3, .sl a4, .int a5, .int a6, .str a7, .sl a8, .sl a9]))
  simp only [rn, List.cons_append, List.nil_append] at e1
  simp only [decide_eq_false n0, cond_false, e1, Option.bind_some, nth, List.getD_cons_zero, List.getD_cons_succ, D.I, D.S, D.L, D.B]
  by_cases n1 : (sub (sub 1048576 (szL [.sl a0, .int a1, .int a2, .str a3, .sl a4, .int a5, .int a6, .str a7, .sl a8, .sl a9])) (szL [.sl a10, .int a11, .int a12, .str a13, .sl a14, .sl a15])) < 0
  · simp only [decide_eq_true n1, cond_true]
  obtain ⟨m0, k0⟩ := sub_le n0
  obtain ⟨m1, k1⟩ := sub_le n1
  have z0 : (szL [.sl a0, .int a1, .int a2, .str a3, .sl a4, .int a5, .int a6, .str a7, .sl a8, .sl a9]) ≤ 1048576 := by omega
  have zz0 := z0
  simp only [szL, D.sz] at zz0
  have z1 : (szL [.sl a10, .int a11, .int a12, .str a13, .sl a14, .sl a15]) ≤ 1048576 := by omega
  have zz1 := z1
  simp only [szL, D.sz] at zz1
  have u0 : WL H [.sl a0, .int a1, .int a2, .str a3, .sl a4, .int a5, .int a6, .str a7, .sl a8, .sl a9] L53 := WL.conv simR _ w0 (by kernel_rfl)
  obtain ⟨xx0, xx1, xx2, xx3, xx4, xx5, xx6, xx7, xx8, xx9, hh, bu0, cu0, bu3, bu4, cu4, bu7, bu8, cu8, bu9, cu9⟩ := wl53 u0
  simp only [List.cons.injEq, D.int.injEq, D.bool.injEq, D.str.injEq, D.sl.injEq, and_true] at hh
  obtain ⟨rfl, rfl, rfl, rfl, rfl, rfl, rfl, rfl, rfl, rfl⟩ := hh
  have x0 := c28 z0 w0
  simp only [rn] at x0
  have u1 : WL H [.sl a10, .int a11, .int a12, .str a13, .sl a14, .sl a15] L72 := WL.conv simR _ w1 (by kernel_rfl)
  obtain ⟨xx0, xx1, xx2, xx3, xx4, xx5, hh, bu10, cu10, bu13, bu14, cu14, bu15, cu15⟩ := wl72 u1
  simp only [List.cons.injEq, D.int.injEq, D.bool.injEq, D.str.injEq, D.sl.injEq, and_true] at hh
  obtain ⟨rfl, rfl, rfl, rfl, rfl, rfl⟩ := hh
  have x1 := c46 z1 w1
  simp only [rn] at x1
  have q0_ := q31 u0 u0
  simp only [rn, eqb_refl, List.cons_append, List.nil_append] at q0_
  have q1_ := q49 u1 u1
  simp only [rn, eqb_refl, List.cons_append, List.nil_append] at q1_
  have i0 := (cnt_sz wide64 _).1 _ _ (Nat.lt_succ_self _) w0
  simp only [cntL, cntD, List.length_cons, List.length_nil] at i0
  have i1 := (cnt_sz wide64 _).1 _ _ (Nat.lt_succ_self _) w1
  simp only [cntL, cntD, List.length_cons, List.length_nil] at i1
  have mk0 := mT32_1 a0 a1 a2 a3 a4 a5 a6 a7 a8 a9 u0 (k := 1) (by omega) (by unfold BK; omega)
  simp only [rn] at mk0
  have mk1 := mT50_1 a10 a11 a12 a13 a14 a15 u1 (k := 1 + (cntR a0 : Int) + (cntR a4 : Int) + (cntR a8 : Int) + (cntR a9 : Int)) (by omega) (by unfold BK; omega)
  simp only [rn] at mk1
  have nk := int_lt_zero (show 0 < 1 + (cntR a0 : Int) + (cntR a4 : Int) + (cntR a8 : Int) + (cntR a9 : Int) + (cntR a10 : Int) + (cntR a14 : Int) + (cntR a15 : Int) by omega)
  obtain ⟨cv, rfl⟩ := strs_of' cu0
  obtain ⟨cl, ht_cl, sm_cl⟩ := tm_of tmTy _ [.int a1, .int a2, .str a3, .sl a4] (Nat.lt_succ_self _) (WL.part 1 4 u0) (by have := z0; simp only [szL, D.sz] at this ⊢; omega)
  have wl_cl : WL H cl.row L50 := ht_cl ▸ WL.part 1 4 u0
  have nd_cl := tm_nodes cl
  have ct_cl := tm_cntR cl
  rw [← ht_cl] at nd_cl
  simp only [szL, D.sz] at nd_cl
  rw [Tm.row_eq] at ht_cl
  simp only [List.cons.injEq, D.int.injEq, D.str.injEq, D.sl.injEq, and_true] at ht_cl
  obtain ⟨rfl, rfl, rfl, rfl⟩ := ht_cl
  obtain ⟨cr, ht_cr, sm_cr⟩ := tm_of tmTy _ [.int a5, .int a6, .str a7, .sl a8] (Nat.lt_succ_self _) (WL.part 5 4 u0) (by have := z0; simp only [szL, D.sz] at this ⊢; omega)
  have wl_cr : WL H cr.row L50 := ht_cr ▸ WL.part 5 4 u0
  have nd_cr := tm_nodes cr
  have ct_cr := tm_cntR cr
  rw [← ht_cr] at nd_cr
  simp only [szL, D.sz] at nd_cr
  rw [Tm.row_eq] at ht_cr
  simp only [List.cons.injEq, D.int.injEq, D.str.injEq, D.sl.injEq, and_true] at ht_cr
  obtain ⟨rfl, rfl, rfl, rfl⟩ := ht_cr
  obtain ⟨sv, rfl⟩ := strs_of' cu10
  obtain ⟨st, ht_st, sm_st⟩ := tm_of tmTy _ [.int a11, .int a12, .str a13, .sl a14] (Nat.lt_succ_self _) (WL.part 1 4 u1) (by have := z1; simp only [szL, D.sz] at this ⊢; omega)
  have wl_st : WL H st.row L50 := ht_st ▸ WL.part 1 4 u1
  have nd_st := tm_nodes st
  have ct_st := tm_cntR st
  rw [← ht_st] at nd_st
  simp only [szL, D.sz] at nd_st
  rw [Tm.row_eq] at ht_st
  simp only [List.cons.injEq, D.int.injEq, D.str.injEq, D.sl.injEq, and_true] at ht_st
  obtain ⟨rfl, rfl, rfl, rfl⟩ := ht_st
  obtain ⟨cs, rfl⟩ := ints_of' cu15
  have hcs := ints_wrs cu15
  rw [List.length_map] at bu15
  have hcl : cs.length ≤ 1048576 := by simp only [List.length_map] at zz1; omega
  have xS := r45 cv cl cr sm_cr a9 sv st sm_st cs bu15 hcl
  have xI := r47 cv cl cr sm_cr a9 sv st sm_st cs bu15 hcl
  simp only [rn] at xS xI
  have hoc : (ocR cv cr sv st cs).length ≤ cs.length ∧ ∀ x ∈ ocR cv cr sv st cs, i64ok x := by
    unfold ocR
    cases cs.all (isC sv.length) with
    | true => exact ⟨List.length_filter_le _ _, fun x hx => hcs x (List.mem_filter.1 hx).1⟩
    | false => exact ⟨Nat.zero_le _, fun x hx => by simp at hx⟩
  have lR0 : ((ocR cv cr sv st cs).map iRow).length ≤ maxLen := by rw [List.length_map]; omega
  have wR0 := wrs_ints (H := H) hoc.2
  have ctO := cntR_ints (ocR cv cr sv st cs)
  have qR0 := q48 lR0 lR0 wR0 wR0
  simp only [rn, eqb_refl, List.cons_append, List.nil_append] at qR0
  have mR0 := m51_2 lR0 wR0 (k := 1) (by omega) (by unfold BK; omega)
  simp only [rn] at mR0
  have hR0 := h52_0 lR0 wR0 (k := 1) (by omega) (by unfold BK; omega)
  simp only [rn] at hR0
  have nR0 := int_lt_zero (show 0 < 1 + (cntR ((ocR cv cr sv st cs).map iRow) : Int) by omega)
  simp only [decide_eq_false n1, cond_false, x0, x1, q0_, q1_, mk0, mk1, nk, xS, xI, qR0, mR0, hR0, nR0, Option.bind_some, nth, List.getD_cons_zero, List.getD_cons_succ, D.I, D.S, D.L, D.B, List.nil_append, Bool.not_true, cond_false, cond_true, decide_true, beq_self_eq_true, Bool.not_false]
theorem law6 {x0 x1 : List D} (h0 : WL H x0 L46) (h1 : WL H x1 L62) : rn ⟨6, 0, 0⟩ (x0 ++ (x1)) = some (0, [.bool true]) := by
  obtain ⟨a0, a1, a2, a3, a4, a5, a6, a7, a8, a9, rfl, _, _, _, _, _, _, _, _, _, _⟩ := wl46 h0
  obtain ⟨a10, a11, a12, a13, a14, a15, rfl, _, _, _, _, _, _, _⟩ := wl62 h1
  exact law6c h0 h1
end Go.Q.S
namespace Go.Q.S
open Go Go.Q Go.Proofs
theorem ki6 : H.ki ⟨6, 0, 0⟩ = some ⟨[(0, argSh ((H.ty 46).getD default)), (1, argSh ((H.ty 62).getD default))], [], [⟨.ret, [(0, .bool)], []⟩]⟩ := by kernel_rfl
theorem plain6 : plainB Try.prog H [3, 9, 26, 30, 41, 43, 44, 46, 62, 177] = true := by kernel_rfl
end Go.Q.S
namespace Go.Proofs.Ytboolhhmagjadaa.fnExactOpenCases
open Go Go.Q Go.Q.S
open Go.ChangeShapes Go.WideShapes Go.ChangeAt Go.RowKit
open Go.ChangeMaps (open_string shut_string)
theorem own : ownKnob Try.prog.godebug = none := by kernel_rfl
theorem laid : laidOutB Try.prog = true := by kernel_rfl
set_option maxRecDepth 100000 in
theorem lifted (os : Os) (started : os.Started) (H : Type) (enc : TypeId × Value → H) :
    ReturnsInHanded {} Try.checked os 6 .any (Rows.fnExactOpenCasesSpec.pre6 enc Try.prog Try.f6 Rows.fnExactOpenCasesRow.domain false) (Rows.fnExactOpenCasesSpec.post enc Try.prog Try.f6 false true false false) := by
  refine returnsInHanded_of_change_sized (C := Try.checked) own started (by kernel_rfl) Try.func6
    (ChangeSpec.witness6 (enc := enc) (C := Try.checked) false ⟨#[], #[.agg #[.slice none 0 0, .int .i64 0, .int .i64 0, .string ByteArray.empty, .slice none 0 0, .int .i64 0, .int .i64 0, .string ByteArray.empty, .slice none 0 0, .slice none 0 0], .agg #[.slice none 0 0, .int .i64 0, .int .i64 0, .string ByteArray.empty, .slice none 0 0, .slice none 0 0]], []⟩ 8 (by kernel_rfl) (by kernel_rfl) (by kernel_rfl) (by kernel_rfl)) ?_
  intro W base args ds gs before hval0 hW hcnd hsz0 _
  have hval : ∀ (j : Nat) t v, Try.f6.params[j]? = some t → args[j]? = some v → Value.okWide Try.prog W .any base t v := hval0
  have hW' := hW
  obtain ⟨p, q, hA0, hV, rfl, hfz, hnd⟩ := hW
  have hA : DataW.TrodAll enc Try.prog W 0 (fun _ => true) true Try.f6.params.toList args.toList ds p := hA0
  rw [Try.params6] at hA hval
  obtain ⟨rfl, rfl⟩ := trodVars_none hV
  have hB := hA
  obtain ⟨v0, v1, d0, d1, p0, p1, rfl, rfl, hp, h0, h1⟩ := trodAll_two hA
  obtain ⟨dss, ha, hlen, hwl⟩ := args_data (H := Go.Q.S.H) fits.ty plain6 _ _ _ _ hB (by decide) (fun j t v h h' => hval j t v (by simpa using h) (by simpa using h'))
  obtain ⟨x0, x1, rfl⟩ : ∃ x0 x1, dss = [x0, x1] := by
    match dss, hlen with
    | [x0, x1], _ => exact ⟨x0, x1, rfl⟩
  obtain ⟨t0, e0, w0⟩ := hwl 0 _ _ rfl rfl
  rw [ty46] at e0
  obtain rfl := Option.some.inj e0
  obtain ⟨t1, e1, w1⟩ := hwl 1 _ _ rfl rfl
  rw [ty62] at e1
  obtain rfl := Option.some.inj e1
  refine (law_calls fits Try.func6 (by kernel_rfl) ki6 rfl rfl ha (b := true) (by simpa using law6 w0 w1)).mono fun e W' ⟨he, bel⟩ => ?_
  subst he
  exact ⟨_, rfl, _, _, _, [], p, _, hW', trodAll_mk1 (shut_bool Try.underlying4 _), trodAll_below laid _ _ _ _ (read_of (by kernel_rfl)) hB bel (fun z hz => hW'.lt z (by simp [hz])), rfl, bel.frame _, fun h => by cases h⟩
theorem over : Rows.fnExactOpenCasesRow.holds Try.pinned (OpenSpec.ofChange Rows.fnExactOpenCasesSpec) :=
  OpenClaim.holds_of_wide 6 Try.f6 rfl rfl rfl rfl rfl rfl rfl ⟨rfl, rfl, rfl, rfl, rfl⟩ rfl rfl rfl rfl rfl (by kernel_rfl) Try.func6 (by kernel_rfl)
    (of_decide_eq_true (by kernel_rfl)) (by unfold Func.isWrapper; first | (rw [if_pos (by decide +kernel)]; kernel_rfl) | (rw [if_neg (by decide +kernel)]; exact ⟨rfl, rfl⟩))
    (fun os started H enc _ => lifted os started H enc)
theorem proved : Rows.FnExactOpenCasesSaid := over
end Go.Proofs.Ytboolhhmagjadaa.fnExactOpenCases
namespace Go.Proofs.Ytboolhhmagjadaa
/-- The row, under a short name, for the claim. -/
theorem fnExactOpenCases_holds : Rows.FnExactOpenCasesSaid := fnExactOpenCases.proved
end Go.Proofs.Ytboolhhmagjadaa
