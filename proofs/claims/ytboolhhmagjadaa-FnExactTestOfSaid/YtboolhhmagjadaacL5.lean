/- For all arguments the law FnExactTestOf answers true and leaves its arguments as they were; no condition. -/
import Derived.Test.YtboolhhmagjadaacI
import Derived.Test.YtboolhhmagjadaaRows
import Derived.WalkKit
import Derived.ProofKit
import Derived.OpenShut
import Derived.ShutString
import Derived.ChangeOld
import Derived.Below
import Derived.SizedLaws
set_option linter.unusedVariables false
set_option linter.unusedSimpArgs false
namespace Go.Q.S
open Go Go.Q Go.Proofs

theorem fits : Fits Try.prog H where
  ty := tyOK_of (l := tyL) (fun _ => rfl) (by kernel_rfl)
  eq := eqOK_of (l := eqL) (fun _ => rfl) (by kernel_rfl)
  mixed := Try.checked.mixed
  names := names_of (by kernel_rfl)
  ext := fun f g h => by simp [H] at h
def tokB (k : Int) (vars : List ByteArray) (cs : List Int) : Bool := decide (k = 1) && (!decide ((cs.length : Int) = 0) && isC vars.length (cs.headD 0))
def tT (k : Int) (vars : List ByteArray) (t : Tm) (cs : List Int) : Tm := if tokB k vars cs then instR vars t (cs.headD 0) else tm0
def tV (k : Int) (vars : List ByteArray) (cs : List Int) : List Int := if tokB k vars cs then vals vars.length (cs.headD 0) else []
def tN (k : Int) (n : Nat) (vars : List ByteArray) (cs : List Int) : Nat := if tokB k vars cs then n else 0
theorem r38 (k : Int) (st : Rows) (vars : List ByteArray) (t : Tm) (h : Small t) (cs : List Int) : rn ⟨38, 0, 0⟩ [.int k, .sl st, .sl (vars.map sRow), .int t.k, .int t.n, .str t.s, .sl (t.as.map Tm.row), .sl (cs.map iRow)] = some (0, [.int 0, .int 0, .str (⟨#[]⟩ : ByteArray), .int (tT k vars t cs).k, .int (tT k vars t cs).n, .str (tT k vars t cs).s, .int (tN k st.length vars cs), .bool (tokB k vars cs), .sl ((tV k vars cs).map iRow), .sl [], .sl ((tT k vars t cs).as.map Tm.row)]) := by
  show run H Try.prog _ _ = _
  rw [run_eq, g38_0_0_eq, g38_0_0]
  by_cases hk : k = 1
  case neg =>
    have hb : tokB k vars cs = false := by simp [tokB, hk]
    simp only [tT, tV, tN, hb, decide_eq_false hk, Bool.not_false, cond_true]; rfl
  cases cs with
  | nil =>
    have hb : tokB k vars [] = false := by simp [tokB]
    simp only [tT, tV, tN, hb, decide_eq_true hk, Bool.not_true, cond_false, List.map_nil, List.length_nil]; rfl
  | cons c cs =>
    have e1 := r99 vars t h ((c :: cs).map iRow) c
    have e2 := r13 vars.length c
    simp only [rn] at e1 e2
    have hl : ¬ (((c :: cs).map iRow).length : Int) = 0 := by simp only [List.length_map, List.length_cons]; omega
    have hin : inb 0 ((c :: cs).map iRow).length = true := by simp only [inb, List.length_map, List.length_cons, Bool.and_eq_true, decide_eq_true_eq]; omega
    have h0 : rowAt ((c :: cs).map iRow) (Int.toNat 0) = [.int c] := rfl
    have hv : (vars.map sRow).length = vars.length := List.length_map ..
    simp only [decide_eq_true hk, decide_eq_false hl, Bool.not_true, cond_false, hin, cond_true, h0, e1, Option.bind_some, nth, List.getD_cons_zero, List.getD_cons_succ, D.I, D.S, D.L, D.B, hv]
    have hb : tokB k vars (c :: cs) = isC vars.length c := by
      have h1 : ¬ (((c :: cs).length : Nat) : Int) = 0 := by simp only [List.length_cons]; omega
      have h2 : (c :: cs).headD 0 = c := rfl
      simp only [tokB, decide_eq_true hk, decide_eq_false h1, h2, Bool.not_false, Bool.true_and]
    simp only [tT, tV, tN, hb]
    have hh : (c :: cs).headD 0 = c := rfl
    rw [hh]
    cases hc : isC vars.length c with
    | false => simp only [Bool.not_false, cond_true]; rfl
    | true => simp only [Bool.not_true, cond_false, e2, Option.bind_some, nth, List.getD_cons_zero, List.getD_cons_succ, D.I, D.S, D.L, D.B]; rfl
theorem r36 (k : Int) (st : Rows) (vars : List ByteArray) (t : Tm) (h : Small t) (cs : List Int) : rn ⟨36, 0, 0⟩ [.int k, .sl st, .sl (vars.map sRow), .int t.k, .int t.n, .str t.s, .sl (t.as.map Tm.row), .sl (cs.map iRow)] = some (0, [.int 0, .int 0, .str (⟨#[]⟩ : ByteArray), .int (tT k vars t cs).k, .int (tT k vars t cs).n, .str (tT k vars t cs).s, .int (tN k st.length vars cs), .bool (tokB k vars cs), .sl ((tV k vars cs).map iRow), .sl [], .sl ((tT k vars t cs).as.map Tm.row)]) := by
  show run H Try.prog _ _ = _
  rw [run_eq, g36_0_0_eq, g36_0_0]
  by_cases hk : k = 1
  case neg =>
    have hb : tokB k vars cs = false := by simp [tokB, hk]
    simp only [tT, tV, tN, hb, decide_eq_false hk, Bool.not_false, cond_true]; rfl
  cases cs with
  | nil =>
    have hb : tokB k vars [] = false := by simp [tokB]
    simp only [tT, tV, tN, hb, decide_eq_true hk, Bool.not_true, cond_false, List.map_nil, List.length_nil]; rfl
  | cons c cs =>
    have e1 := r95 vars t h ((c :: cs).map iRow) c
    have e2 := r15 vars.length c
    simp only [rn] at e1 e2
    have hl : ¬ (((c :: cs).map iRow).length : Int) = 0 := by simp only [List.length_map, List.length_cons]; omega
    have hin : inb 0 ((c :: cs).map iRow).length = true := by simp only [inb, List.length_map, List.length_cons, Bool.and_eq_true, decide_eq_true_eq]; omega
    have h0 : rowAt ((c :: cs).map iRow) (Int.toNat 0) = [.int c] := rfl
    have hv : (vars.map sRow).length = vars.length := List.length_map ..
    simp only [decide_eq_true hk, decide_eq_false hl, Bool.not_true, cond_false, hin, cond_true, h0, e1, Option.bind_some, nth, List.getD_cons_zero, List.getD_cons_succ, D.I, D.S, D.L, D.B, hv]
    have hb : tokB k vars (c :: cs) = isC vars.length c := by
      have h1 : ¬ (((c :: cs).length : Nat) : Int) = 0 := by simp only [List.length_cons]; omega
      have h2 : (c :: cs).headD 0 = c := rfl
      simp only [tokB, decide_eq_true hk, decide_eq_false h1, h2, Bool.not_false, Bool.true_and]
    simp only [tT, tV, tN, hb]
    have hh : (c :: cs).headD 0 = c := rfl
    rw [hh]
    cases hc : isC vars.length c with
    | false => simp only [Bool.not_false, cond_true]; rfl
    | true => simp only [Bool.not_true, cond_false, e2, Option.bind_some, nth, List.getD_cons_zero, List.getD_cons_succ, D.I, D.S, D.L, D.B]; rfl
theorem law5c {a0 : Int} {a1 : Rows} {a2 : Rows} {a3 : Int} {a4 : Int} {a5 : ByteArray} {a6 : Rows} {a7 : Rows} (w0 : WL H [.int a0, .sl a1, .sl a2, .int a3, .int a4, .str a5, .sl a6, .sl a7] L64) : rn ⟨5, 0, 0⟩ [.int a0, .sl a1, .sl a2, .int a3, .int a4, .str a5, .sl a6, .sl a7] = some (0, [.bool true]) := by
  have w0_ := w0
  show run H Try.prog _ _ = _
  rw [run_eq, g5_0_0_eq, g5_0_0]
  have e0 := s35 w0 bd20
  simp only [rn, List.cons_append, List.nil_append] at e0
  simp only [e0, Option.bind_some, nth, List.getD_cons_zero, List.getD_cons_succ, D.I, D.S, D.L, D.B]
  by_cases n0 : (sub 1048576 (szL [.int a0, .sl a1, .sl a2, .int a3, .int a4, .str a5, .sl a6, .sl a7])) < 0
  · simp only [decide_eq_true n0, cond_true]
  obtain ⟨m0, k0⟩ := sub_le n0
  have z0 : (szL [.int a0, .sl a1, .sl a2, .int a3, .int a4, .str a5, .sl a6, .sl a7]) ≤ 1048576 := by omega
  have zz0 := z0
  simp only [szL, D.sz] at zz0
  have u0 : WL H [.int a0, .sl a1, .sl a2, .int a3, .int a4, .str a5, .sl a6, .sl a7] L74 := WL.conv simR _ w0 (by kernel_rfl)
  obtain ⟨xx0, xx1, xx2, xx3, xx4, xx5, xx6, xx7, hh, bu1, cu1, bu2, cu2, bu5, bu6, cu6, bu7, cu7⟩ := wl74 u0
  simp only [List.cons.injEq, D.int.injEq, D.bool.injEq, D.str.injEq, D.sl.injEq, and_true] at hh
  obtain ⟨rfl, rfl, rfl, rfl, rfl, rfl, rfl, rfl⟩ := hh
  have x0 := c37 z0 w0
  simp only [rn] at x0
  have q0_ := q40 u0 u0
  simp only [rn, eqb_refl, List.cons_append, List.nil_append] at q0_
  have i0 := (cnt_sz wide64 _).1 _ _ (Nat.lt_succ_self _) w0
  simp only [cntL, cntD, List.length_cons, List.length_nil] at i0
  have mk0 := mT41_1 a0 a1 a2 a3 a4 a5 a6 a7 u0 (k := 1) (by omega) (by unfold BK; omega)
  simp only [rn] at mk0
  have nk := int_lt_zero (show 0 < 1 + (cntR a1 : Int) + (cntR a2 : Int) + (cntR a6 : Int) + (cntR a7 : Int) by omega)
  obtain ⟨vars, rfl⟩ := strs_of' cu2
  obtain ⟨tl, ht_tl, sm_tl⟩ := tm_of tmTy _ [.int a3, .int a4, .str a5, .sl a6] (Nat.lt_succ_self _) (WL.part 3 4 u0) (by have := z0; simp only [szL, D.sz] at this ⊢; omega)
  have wl_tl : WL H tl.row L50 := ht_tl ▸ WL.part 3 4 u0
  have nd_tl := tm_nodes tl
  have ct_tl := tm_cntR tl
  rw [← ht_tl] at nd_tl
  simp only [szL, D.sz] at nd_tl
  rw [Tm.row_eq] at ht_tl
  simp only [List.cons.injEq, D.int.injEq, D.str.injEq, D.sl.injEq, and_true] at ht_tl
  obtain ⟨rfl, rfl, rfl, rfl⟩ := ht_tl
  obtain ⟨cs, rfl⟩ := ints_of' cu7
  have xS := r36 a0 a1 vars tl sm_tl cs
  have xI := r38 a0 a1 vars tl sm_tl cs
  simp only [rn] at xS xI
  have hT : WL H (tT a0 vars tl cs).row L50 := by unfold tT; split <;> first | exact instR_wl tmTy wl_tl _ | exact tm0_wl tmTy
  obtain ⟨o1, o2, o3, o4, o5⟩ := (wl_row tmTy _).1 hT
  have hv1 : (tV a0 vars cs).length ≤ vars.length := by unfold tV; split <;> first | exact vals_len _ _ | exact Nat.zero_le _
  have hv2 : ∀ x ∈ tV a0 vars cs, i64ok x := by unfold tV; split <;> first | exact vals_ok _ _ | exact fun x hx => by simp at hx
  have hN : tN a0 a1.length vars cs ≤ maxLen := by unfold tN; split <;> first | exact bu1 | exact Nat.zero_le _
  have z00 : i64ok 0 := i64ok_of (by decide) (by decide)
  rw [List.length_map] at bu2 zz0
  have wR0 : WL H [.sl ((tV a0 vars cs).map iRow), .int 0, .int 0, .str (⟨#[]⟩ : ByteArray), .sl [], .int (tT a0 vars tl cs).k, .int (tT a0 vars tl cs).n, .str (tT a0 vars tl cs).s, .sl ((tT a0 vars tl cs).as.map Tm.row), .int (tN a0 a1.length vars cs)] L67 := wlc_sl ty3 (by rw [List.length_map]; omega) (wrs_ints hv2) (wlc_int z00 (wlc_int z00 (wlc_str (by decide) (wlc_sl ty50 (Nat.zero_le _) wrs_nil (wlc_int o1 (wlc_int o2 (wlc_str o3 (wlc_sl ty50 (by simpa using o4) (wrs_map.2 o5) (wlc_int (len_ok hN) wlc_nil)))))))))
  have ctT := tm_cntR (tT a0 vars tl cs)
  have ndT : (tT a0 vars tl cs).nodes ≤ tl.nodes := by unfold tT; split <;> first | exact instR_nodes _ | exact tm0_nodes tl
  have ctV := cntR_ints (tV a0 vars cs)
  have ct0 : cntR [] = 0 := rfl
  have qR0 := q39 wR0 wR0
  simp only [rn, eqb_refl, List.cons_append, List.nil_append] at qR0
  have mR0 := mT42_1 ((tV a0 vars cs).map iRow) (0) (0) ((⟨#[]⟩ : ByteArray)) ([]) ((tT a0 vars tl cs).k) ((tT a0 vars tl cs).n) ((tT a0 vars tl cs).s) ((tT a0 vars tl cs).as.map Tm.row) (((tN a0 a1.length vars cs : Nat) : Int)) wR0 (k := 1) (by omega) (by unfold BK; omega)
  simp only [rn] at mR0
  have hR0 := hT43_0 ((tV a0 vars cs).map iRow) (0) (0) ((⟨#[]⟩ : ByteArray)) ([]) ((tT a0 vars tl cs).k) ((tT a0 vars tl cs).n) ((tT a0 vars tl cs).s) ((tT a0 vars tl cs).as.map Tm.row) (((tN a0 a1.length vars cs : Nat) : Int)) wR0 (k := 1) (by omega) (by unfold BK; omega)
  simp only [rn] at hR0
  have nR0 := int_lt_zero (show 0 < 1 + (cntR ((tV a0 vars cs).map iRow) : Int) + (cntR ([]) : Int) + (cntR ((tT a0 vars tl cs).as.map Tm.row) : Int) by omega)
  simp only [decide_eq_false n0, cond_false, x0, q0_, mk0, nk, xS, xI, qR0, mR0, hR0, nR0, Option.bind_some, nth, List.getD_cons_zero, List.getD_cons_succ, D.I, D.S, D.L, D.B, List.nil_append, Bool.not_true, cond_false, cond_true, decide_true, beq_self_eq_true, Bool.not_false]
theorem law5 {x0 : List D} (h0 : WL H x0 L64) : rn ⟨5, 0, 0⟩ (x0) = some (0, [.bool true]) := by
  obtain ⟨a0, a1, a2, a3, a4, a5, a6, a7, rfl, _, _, _, _, _, _, _, _, _⟩ := wl64 h0
  exact law5c h0
end Go.Q.S
namespace Go.Q.S
open Go Go.Q Go.Proofs
theorem ki5 : H.ki ⟨5, 0, 0⟩ = some ⟨[(0, argSh ((H.ty 64).getD default))], [], [⟨.ret, [(0, .bool)], []⟩]⟩ := by kernel_rfl
theorem plain5 : plainB Try.prog H [3, 9, 26, 30, 41, 43, 60, 62, 64, 185] = true := by kernel_rfl
end Go.Q.S
namespace Go.Proofs.Ytboolhhmagjadaa.fnExactTestOf
open Go Go.Q Go.Q.S
open Go.ChangeShapes Go.WideShapes Go.ChangeAt Go.RowKit
open Go.ChangeMaps (open_string shut_string)
theorem own : ownKnob Try.prog.godebug = none := by kernel_rfl
theorem laid : laidOutB Try.prog = true := by kernel_rfl
set_option maxRecDepth 100000 in
theorem lifted (os : Os) (started : os.Started) (H : Type) (enc : TypeId × Value → H) :
    ReturnsInHanded {} Try.checked os 5 .any (Rows.fnExactTestOfSpec.pre6 enc Try.prog Try.f5 Rows.fnExactTestOfRow.domain false) (Rows.fnExactTestOfSpec.post enc Try.prog Try.f5 false true false false) := by
  refine returnsInHanded_of_change_sized (C := Try.checked) own started (by kernel_rfl) Try.func5
    (ChangeSpec.witness6 (enc := enc) (C := Try.checked) false ⟨#[], #[.agg #[.int .i64 0, .slice none 0 0, .slice none 0 0, .int .i64 0, .int .i64 0, .string ByteArray.empty, .slice none 0 0, .slice none 0 0]], []⟩ 8 (by kernel_rfl) (by kernel_rfl) (by kernel_rfl) (by kernel_rfl)) ?_
  intro W base args ds gs before hval0 hW hcnd hsz0 _
  have hval : ∀ (j : Nat) t v, Try.f5.params[j]? = some t → args[j]? = some v → Value.okWide Try.prog W .any base t v := hval0
  have hW' := hW
  obtain ⟨p, q, hA0, hV, rfl, hfz, hnd⟩ := hW
  have hA : DataW.TrodAll enc Try.prog W 0 (fun _ => true) true Try.f5.params.toList args.toList ds p := hA0
  rw [Try.params5] at hA hval
  obtain ⟨rfl, rfl⟩ := trodVars_none hV
  have hB := hA
  obtain ⟨v0, d0, rfl, rfl, h0⟩ := trodAll_one hA
  obtain ⟨dss, ha, hlen, hwl⟩ := args_data (H := Go.Q.S.H) fits.ty plain5 _ _ _ _ hB (by decide) (fun j t v h h' => hval j t v (by simpa using h) (by simpa using h'))
  obtain ⟨x0, rfl⟩ : ∃ x0, dss = [x0] := by
    match dss, hlen with
    | [x0], _ => exact ⟨x0, rfl⟩
  obtain ⟨t0, e0, w0⟩ := hwl 0 _ _ rfl rfl
  rw [ty64] at e0
  obtain rfl := Option.some.inj e0
  refine (law_calls fits Try.func5 (by kernel_rfl) ki5 rfl rfl ha (b := true) (by simpa using law5 w0)).mono fun e W' ⟨he, bel⟩ => ?_
  subst he
  exact ⟨_, rfl, _, _, _, [], p, _, hW', trodAll_mk1 (shut_bool Try.underlying4 _), trodAll_below laid _ _ _ _ (read_of (by kernel_rfl)) hB bel (fun z hz => hW'.lt z (by simp [hz])), rfl, bel.frame _, fun h => by cases h⟩
theorem over : Rows.fnExactTestOfRow.holds Try.pinned (OpenSpec.ofChange Rows.fnExactTestOfSpec) :=
  OpenClaim.holds_of_wide 5 Try.f5 rfl rfl rfl rfl rfl rfl rfl ⟨rfl, rfl, rfl, rfl, rfl⟩ rfl rfl rfl rfl rfl (by kernel_rfl) Try.func5 (by kernel_rfl)
    (of_decide_eq_true (by kernel_rfl)) (by unfold Func.isWrapper; first | (rw [if_pos (by decide +kernel)]; kernel_rfl) | (rw [if_neg (by decide +kernel)]; exact ⟨rfl, rfl⟩))
    (fun os started H enc _ => lifted os started H enc)
theorem proved : Rows.FnExactTestOfSaid := over
end Go.Proofs.Ytboolhhmagjadaa.fnExactTestOf
namespace Go.Proofs.Ytboolhhmagjadaa
/-- The row, under a short name, for the claim. -/
theorem fnExactTestOf_holds : Rows.FnExactTestOfSaid := fnExactTestOf.proved
end Go.Proofs.Ytboolhhmagjadaa
