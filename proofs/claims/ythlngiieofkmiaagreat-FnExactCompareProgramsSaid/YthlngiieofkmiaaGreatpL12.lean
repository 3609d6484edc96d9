/- For all arguments the law FnExactComparePrograms answers true and leaves its arguments as they were; no condition. -/
import Derived.Test.YthlngiieofkmiaaGreatpI
import Derived.Test.YthlngiieofkmiaaGreatpP15
import Derived.Test.YthlngiieofkmiaaGreatpE5
import Derived.Test.YthlngiieofkmiaaGreatRows
import Derived.WalkKit
import Derived.ProofKit
import Derived.OpenShut
import Derived.ShutString
import Derived.ChangeOld
import Derived.Below
import Derived.SizedLaws
set_option linter.unusedVariables false
set_option linter.unusedSimpArgs false
namespace Go.Q.S
open Go Go.Q Go.Proofs
theorem law12c {a0 : Rows} {a1 : Rows} {a2 : Rows} {a3 : Rows} {a4 : Rows} {a5 : Int} {a6 : Int} {a7 : ByteArray} {a8 : Rows} {a9 : Rows} {a10 : Rows} {a11 : Rows} {a12 : Rows} {a13 : Rows} {a14 : Rows} {a15 : Int} {a16 : Int} {a17 : ByteArray} {a18 : Rows} {a19 : Rows} (w0 : WL H [.sl a0,.sl a1,.sl a2,.sl a3] L29) (w1 : WL H [.sl a4,.int a5,.int a6,.str a7,.sl a8,.sl a9] L88) (w2 : WL H [.sl a10,.sl a11,.sl a12,.sl a13] L29) (w3 : WL H [.sl a14,.int a15,.int a16,.str a17,.sl a18,.sl a19] L88) : rn ⟨12,0,0⟩ [.sl a0,.sl a1,.sl a2,.sl a3,.sl a4,.int a5,.int a6,.str a7,.sl a8,.sl a9,.sl a10,.sl a11,.sl a12,.sl a13,.sl a14,.int a15,.int a16,.str a17,.sl a18,.sl a19] = some (0,[.bool true]) := by
 have w0_ := w0
 have w1_ := w1
 have w2_ := w2
 have w3_ := w3
 show rn _ _ = _
 rw [e12_0_0]
 have e0 := s15 w0 bd20
 simp only [List.cons_append,List.nil_append] at e0
 simp only [e0,Option.bind_some,nth,List.getD_cons_zero,List.getD_cons_succ,D.I,D.S,D.L,D.B]
 by_cases n0 : (sub 1048576 (szL [.sl a0,.sl a1,.sl a2,.sl a3])) < 0
 · simp only [decide_eq_true n0,cond_true]
 have e1 := s48 w1 (Bd.sub bd20 (szL [.sl a0,.sl a1,.sl a2,.sl a3]))
 simp only [List.cons_append,List.nil_append] at e1
 simp only [decide_eq_false n0,cond_false,e1,Option.bind_some,nth,List.getD_cons_zero,List.getD_cons_succ,D.I,D.S,D.L,D.B]
 by_cases n1 : (sub (sub 1048576 (szL [.sl a0,.sl a1,.sl a2,.sl a3])) (szL [.sl a4,.int a5,.int a6,.str a7,.sl a8,.sl a9])) < 0
 · simp only [decide_eq_true n1,cond_true]
 have e2 := s15 w2 (Bd.sub (Bd.sub bd20 (szL [.sl a0,.sl a1,.sl a2,.sl a3])) (szL [.sl a4,.int a5,.int a6,.str a7,.sl a8,.sl a9]))
 simp only [List.cons_append,List.nil_append] at e2
 simp only [decide_eq_false n1,cond_false,e2,Option.bind_some,nth,List.getD_cons_zero,List.getD_cons_succ,D.I,D.S,D.L,D.B]
 by_cases n2 : (sub (sub (sub 1048576 (szL [.sl a0,.sl a1,.sl a2,.sl a3])) (szL [.sl a4,.int a5,.int a6,.str a7,.sl a8,.sl a9])) (szL [.sl a10,.sl a11,.sl a12,.sl a13])) < 0
 · simp only [decide_eq_true n2,cond_true]
 have e3 := s48 w3 (Bd.sub (Bd.sub (Bd.sub bd20 (szL [.sl a0,.sl a1,.sl a2,.sl a3])) (szL [.sl a4,.int a5,.int a6,.str a7,.sl a8,.sl a9])) (szL [.sl a10,.sl a11,.sl a12,.sl a13]))
 simp only [List.cons_append,List.nil_append] at e3
 simp only [decide_eq_false n2,cond_false,e3,Option.bind_some,nth,List.getD_cons_zero,List.getD_cons_succ,D.I,D.S,D.L,D.B]
 by_cases n3 : (sub (sub (sub (sub 1048576 (szL [.sl a0,.sl a1,.sl a2,.sl a3])) (szL [.sl a4,.int a5,.int a6,.str a7,.sl a8,.sl a9])) (szL [.sl a10,.sl a11,.sl a12,.sl a13])) (szL [.sl a14,.int a15,.int a16,.str a17,.sl a18,.sl a19])) < 0
 · simp only [decide_eq_true n3,cond_true]
 obtain ⟨m0,k0⟩ := sub_le n0
 obtain ⟨m1,k1⟩ := sub_le n1
 obtain ⟨m2,k2⟩ := sub_le n2
 obtain ⟨m3,k3⟩ := sub_le n3
 have z0 : (szL [.sl a0,.sl a1,.sl a2,.sl a3]) <= 1048576 := by omega
 have zz0 := z0
 simp only [szL,D.sz] at zz0
 have z1 : (szL [.sl a4,.int a5,.int a6,.str a7,.sl a8,.sl a9]) <= 1048576 := by omega
 have zz1 := z1
 simp only [szL,D.sz] at zz1
 have z2 : (szL [.sl a10,.sl a11,.sl a12,.sl a13]) <= 1048576 := by omega
 have zz2 := z2
 simp only [szL,D.sz] at zz2
 have z3 : (szL [.sl a14,.int a15,.int a16,.str a17,.sl a18,.sl a19]) <= 1048576 := by omega
 have zz3 := z3
 simp only [szL,D.sz] at zz3
 have u0 : WL H [.sl a0,.sl a1,.sl a2,.sl a3] L45 := WL.conv simR _ w0 (by kernel_rfl)
 obtain ⟨xx0,xx1,xx2,xx3,hh,bu0,cu0,bu1,cu1,bu2,cu2,bu3,cu3⟩ := wl45 u0
 simp only [List.cons.injEq,D.int.injEq,D.bool.injEq,D.str.injEq,D.sl.injEq,and_true] at hh
 obtain ⟨rfl,rfl,rfl,rfl⟩ := hh
 have x0 := c18 z0 w0
 skip
 have u1 : WL H [.sl a4,.int a5,.int a6,.str a7,.sl a8,.sl a9] L92 := WL.conv simR _ w1 (by kernel_rfl)
 obtain ⟨xx0,xx1,xx2,xx3,xx4,xx5,hh,bu4,cu4,bu7,bu8,cu8,bu9,cu9⟩ := wl92 u1
 simp only [List.cons.injEq,D.int.injEq,D.bool.injEq,D.str.injEq,D.sl.injEq,and_true] at hh
 obtain ⟨rfl,rfl,rfl,rfl,rfl,rfl⟩ := hh
 have x1 := c50 z1 w1
 skip
 have u2 : WL H [.sl a10,.sl a11,.sl a12,.sl a13] L45 := WL.conv simR _ w2 (by kernel_rfl)
 obtain ⟨xx0,xx1,xx2,xx3,hh,bu10,cu10,bu11,cu11,bu12,cu12,bu13,cu13⟩ := wl45 u2
 simp only [List.cons.injEq,D.int.injEq,D.bool.injEq,D.str.injEq,D.sl.injEq,and_true] at hh
 obtain ⟨rfl,rfl,rfl,rfl⟩ := hh
 have x2 := c18 z2 w2
 skip
 have u3 : WL H [.sl a14,.int a15,.int a16,.str a17,.sl a18,.sl a19] L92 := WL.conv simR _ w3 (by kernel_rfl)
 obtain ⟨xx0,xx1,xx2,xx3,xx4,xx5,hh,bu14,cu14,bu17,bu18,cu18,bu19,cu19⟩ := wl92 u3
 simp only [List.cons.injEq,D.int.injEq,D.bool.injEq,D.str.injEq,D.sl.injEq,and_true] at hh
 obtain ⟨rfl,rfl,rfl,rfl,rfl,rfl⟩ := hh
 have x3 := c50 z3 w3
 skip
 have q0_ := q21 u0 u0
 simp only [eqb_refl,List.cons_append,List.nil_append] at q0_
 have q1_ := q52 u1 u1
 simp only [eqb_refl,List.cons_append,List.nil_append] at q1_
 have q2_ := q21 u2 u2
 simp only [eqb_refl,List.cons_append,List.nil_append] at q2_
 have q3_ := q52 u3 u3
 simp only [eqb_refl,List.cons_append,List.nil_append] at q3_
 have i0 := (cnt_sz wide64 _).1 _ _ (Nat.lt_succ_self _) w0
 simp only [cntL,cntD,List.length_cons,List.length_nil] at i0
 have i1 := (cnt_sz wide64 _).1 _ _ (Nat.lt_succ_self _) w1
 simp only [cntL,cntD,List.length_cons,List.length_nil] at i1
 have i2 := (cnt_sz wide64 _).1 _ _ (Nat.lt_succ_self _) w2
 simp only [cntL,cntD,List.length_cons,List.length_nil] at i2
 have i3 := (cnt_sz wide64 _).1 _ _ (Nat.lt_succ_self _) w3
 simp only [cntL,cntD,List.length_cons,List.length_nil] at i3
 have mk0 := mT36_1 a0 a1 a2 a3 u0 (k := 1) (by omega) (by unfold BK; omega)
 skip
 have mk1 := mT62_1 a4 a5 a6 a7 a8 a9 u1 (k := 1 + (cntR a0 : Int) + (cntR a1 : Int) + (cntR a2 : Int) + (cntR a3 : Int)) (by omega) (by unfold BK; omega)
 skip
 have mk2 := mT36_1 a10 a11 a12 a13 u2 (k := 1 + (cntR a0 : Int) + (cntR a1 : Int) + (cntR a2 : Int) + (cntR a3 : Int) + (cntR a4 : Int) + (cntR a8 : Int) + (cntR a9 : Int)) (by omega) (by unfold BK; omega)
 skip
 have mk3 := mT62_1 a14 a15 a16 a17 a18 a19 u3 (k := 1 + (cntR a0 : Int) + (cntR a1 : Int) + (cntR a2 : Int) + (cntR a3 : Int) + (cntR a4 : Int) + (cntR a8 : Int) + (cntR a9 : Int) + (cntR a10 : Int) + (cntR a11 : Int) + (cntR a12 : Int) + (cntR a13 : Int)) (by omega) (by unfold BK; omega)
 skip
 have nk := int_lt_zero (show 0 < 1 + (cntR a0 : Int) + (cntR a1 : Int) + (cntR a2 : Int) + (cntR a3 : Int) + (cntR a4 : Int) + (cntR a8 : Int) + (cntR a9 : Int) + (cntR a10 : Int) + (cntR a11 : Int) + (cntR a12 : Int) + (cntR a13 : Int) + (cntR a14 : Int) + (cntR a18 : Int) + (cntR a19 : Int) by omega)
 obtain ⟨dx,rfl,rfl,rfl,rfl,hdxb⟩ := def_of tmTy ty127 rfl ty9 rfl cu0 cu1 cu2 cu3 z0
 obtain ⟨vx,rfl⟩ := strs_of' cu4
 have hvsx := strs_wrs cu4
 obtain ⟨tx,ht_tx,sm_tx⟩ := tm_of tmTy _ [.int a5,.int a6,.str a7,.sl a8] (Nat.lt_succ_self _) (WL.part 1 4 u1) (by have := z1; simp only [szL,D.sz] at this ⊢; omega)
 have wl_tx : WL H tx.row L49 := ht_tx ▸ WL.part 1 4 u1
 have nd_tx := tm_nodes tx
 have ct_tx := tm_cntR tx
 rw [<- ht_tx] at nd_tx
 simp only [szL,D.sz] at nd_tx
 rw [Tm.row_eq] at ht_tx
 simp only [List.cons.injEq,D.int.injEq,D.str.injEq,D.sl.injEq,and_true] at ht_tx
 obtain ⟨rfl,rfl,rfl,rfl⟩ := ht_tx
 have wt_tx := (wt_iff tmTy tx).1 wl_tx
 have hn_tx : tx.nodes <= 1048577 := by omega
 obtain ⟨cx,rfl⟩ := ints_of' cu9
 have hcix := ints_wrs cu9
 simp only [List.length_map] at zz1 nd_tx
 have hsbx : SyB ⟨dx,vx,tx,cx⟩ := ⟨hdxb,by show vx.length <= _; omega,hvsx,wt_tx,hn_tx,by show cx.length <= _; omega⟩
 obtain ⟨dy,rfl,rfl,rfl,rfl,hdyb⟩ := def_of tmTy ty127 rfl ty9 rfl cu10 cu11 cu12 cu13 z2
 obtain ⟨vy,rfl⟩ := strs_of' cu14
 have hvsy := strs_wrs cu14
 obtain ⟨ty,ht_ty,sm_ty⟩ := tm_of tmTy _ [.int a15,.int a16,.str a17,.sl a18] (Nat.lt_succ_self _) (WL.part 1 4 u3) (by have := z3; simp only [szL,D.sz] at this ⊢; omega)
 have wl_ty : WL H ty.row L49 := ht_ty ▸ WL.part 1 4 u3
 have nd_ty := tm_nodes ty
 have ct_ty := tm_cntR ty
 rw [<- ht_ty] at nd_ty
 simp only [szL,D.sz] at nd_ty
 rw [Tm.row_eq] at ht_ty
 simp only [List.cons.injEq,D.int.injEq,D.str.injEq,D.sl.injEq,and_true] at ht_ty
 obtain ⟨rfl,rfl,rfl,rfl⟩ := ht_ty
 have wt_ty := (wt_iff tmTy ty).1 wl_ty
 have hn_ty : ty.nodes <= 1048577 := by omega
 obtain ⟨cy,rfl⟩ := ints_of' cu19
 have hciy := ints_wrs cu19
 simp only [List.length_map] at zz3 nd_ty
 have hsby : SyB ⟨dy,vy,ty,cy⟩ := ⟨hdyb,by show vy.length <= _; omega,hvsy,wt_ty,hn_ty,by show cy.length <= _; omega⟩
 have xS := r60 _ _ hsbx hsby
 have xI := r61 _ _ hsbx hsby
 have gR := cmpR_good hsbx hsby hcix
 generalize cmpR (⟨dx,vx,tx,cx⟩ : SyM) ⟨dy,vy,ty,cy⟩ = R at xS xI gR
 obtain ⟨g1,g2,g3,⟨g4,g5⟩,g6,g7⟩ := gR
 simp only [SyM.row,List.cons_append,List.nil_append,cmD] at xS xI
 obtain ⟨o1,o2,o3,o4,o5⟩ := (wl_row tmTy R.a).1 ((wt_iff tmTy _).2 g1)
 obtain ⟨p1,p2,p3,p4,p5⟩ := (wl_row tmTy R.b).1 ((wt_iff tmTy _).2 g2)
 have wR0 : WL H [.int R.k,.int R.c,.int R.a.k,.int R.a.n,.str R.a.s,.sl (R.a.as.map Tm.row),.int R.b.k,.int R.b.n,.str R.b.s,.sl (R.b.as.map Tm.row)] L103 := wlc_int (i64ok_of (by omega) (by omega)) (wlc_int g3 (wlc_int o1 (wlc_int o2 (wlc_str o3 (wlc_sl ty49 (by simpa using o4) (wrs_map.2 o5) (wlc_int p1 (wlc_int p2 (wlc_str p3 (wlc_sl ty49 (by simpa using p4) (wrs_map.2 p5) wlc_nil)))))))))
 have ctA := tm_cntR R.a
 have ctB := tm_cntR R.b
 have qR0 := q59 wR0 wR0
 simp only [eqb_refl,List.cons_append,List.nil_append] at qR0
 have mR0 := mT63_1 (R.k) (R.c) (R.a.k) (R.a.n) (R.a.s) (R.a.as.map Tm.row) (R.b.k) (R.b.n) (R.b.s) (R.b.as.map Tm.row) wR0 (k := 1) (by omega) (by unfold BK; omega)
 skip
 have hR0 := hT64_0 (R.k) (R.c) (R.a.k) (R.a.n) (R.a.s) (R.a.as.map Tm.row) (R.b.k) (R.b.n) (R.b.s) (R.b.as.map Tm.row) wR0 (k := 1) (by omega) (by unfold BK; omega)
 skip
 have nR0 := int_lt_zero (show 0 < 1 + (cntR (R.a.as.map Tm.row) : Int) + (cntR (R.b.as.map Tm.row) : Int) by omega)
 simp only [decide_eq_false n3,cond_false,x0,x1,x2,x3,q0_,q1_,q2_,q3_,mk0,mk1,mk2,mk3,nk,xS,xI,qR0,mR0,hR0,nR0,Option.bind_some,nth,List.getD_cons_zero,List.getD_cons_succ,D.I,D.S,D.L,D.B,List.nil_append,Bool.not_true,cond_false,cond_true,decide_true,beq_self_eq_true,Bool.not_false]
theorem law12 {x0 x1 x2 x3 : List D} (h0 : WL H x0 L29) (h1 : WL H x1 L88) (h2 : WL H x2 L29) (h3 : WL H x3 L88) : rn ⟨12,0,0⟩ (x0 ++ (x1 ++ (x2 ++ (x3)))) = some (0,[.bool true]) := by
 obtain ⟨a0,a1,a2,a3,rfl,_,_,_,_,_,_,_,_⟩ := wl29 h0
 obtain ⟨a4,a5,a6,a7,a8,a9,rfl,_,_,_,_,_,_,_⟩ := wl88 h1
 obtain ⟨a10,a11,a12,a13,rfl,_,_,_,_,_,_,_,_⟩ := wl29 h2
 obtain ⟨a14,a15,a16,a17,a18,a19,rfl,_,_,_,_,_,_,_⟩ := wl88 h3
 exact law12c h0 h1 h2 h3
end Go.Q.S
namespace Go.Q.S
open Go Go.Q Go.Proofs
theorem ki12 : H.ki ⟨12,0,0⟩ = some ⟨[(0,argSh ((H.ty 29).getD default)),(1,argSh ((H.ty 88).getD default)),(2,argSh ((H.ty 29).getD default)),(3,argSh ((H.ty 88).getD default))],[],[⟨.ret,[(0,.bool)],[]⟩]⟩ := by kernel_rfl
theorem plain12 : plainB Tryz.prog H [3,9,22,23,25,26,27,29,30,32,33,62,88,184,187,190,240] = true := by kernel_rfl
end Go.Q.S
namespace Go.Proofs.YthlngiieofkmiaaGreat.fnExactComparePrograms
open Go Go.Q Go.Q.S
open Go.ChangeShapes Go.WideShapes Go.ChangeAt Go.RowKit
open Go.ChangeMaps (open_string shut_string)
theorem own : ownKnob Tryz.prog.godebug = none := by kernel_rfl
theorem laid : laidOutB Tryz.prog = true := by kernel_rfl
set_option maxRecDepth 100000 in
theorem lifted (os : Os) (started : os.Started) (H : Type) (enc : TypeId × Value -> H) :
 ReturnsInHanded {} Tryz.checked os 12 .any (Rows.fnExactCompareProgramsSpec.pre6 enc Tryz.prog Tryz.f12 Rows.fnExactCompareProgramsRow.domain false) (Rows.fnExactCompareProgramsSpec.post enc Tryz.prog Tryz.f12 false true false false) := by
 refine returnsInHanded_of_change_sized (C := Tryz.checked) own started (by kernel_rfl) Tryz.func12
  (ChangeSpec.witness6 (enc := enc) (C := Tryz.checked) false ⟨#[],#[.agg #[.slice none 0 0,.slice none 0 0,.slice none 0 0,.slice none 0 0],.agg #[.slice none 0 0,.int .i64 0,.int .i64 0,.string ByteArray.empty,.slice none 0 0,.slice none 0 0],.agg #[.slice none 0 0,.slice none 0 0,.slice none 0 0,.slice none 0 0],.agg #[.slice none 0 0,.int .i64 0,.int .i64 0,.string ByteArray.empty,.slice none 0 0,.slice none 0 0]],[]⟩ 8 (by kernel_rfl) (by kernel_rfl) (by kernel_rfl) (by kernel_rfl)) ?_
 intro W base args ds gs before hval0 hW hcnd hsz0 _
 have hval : ∀ (j : Nat) t v,Tryz.f12.params[j]? = some t -> args[j]? = some v -> Value.okWide Tryz.prog W .any base t v := hval0
 have hW' := hW
 obtain ⟨p,q,hA0,hV,rfl,hfz,hnd⟩ := hW
 have hA : DataW.TrodAll enc Tryz.prog W 0 (fun _ => true) true Tryz.f12.params.toList args.toList ds p := hA0
 rw [Tryz.params12] at hA hval
 obtain ⟨rfl,rfl⟩ := trodVars_none hV
 have hB := hA
 obtain ⟨v0,v1,v2,v3,d0,d1,d2,d3,p0,p1,p2,p3,rfl,rfl,hp,h0,h1,h2,h3⟩ := trodAll_four hA
 obtain ⟨dss,ha,hlen,hwl⟩ := args_data (H := Go.Q.S.H) fits.ty plain12 _ _ _ _ hB (by decide) (fun j t v h h' => hval j t v (by simpa using h) (by simpa using h'))
 obtain ⟨x0,x1,x2,x3,rfl⟩ : ∃ x0 x1 x2 x3,dss = [x0,x1,x2,x3] := by
  match dss,hlen with
  | [x0,x1,x2,x3],_ => exact ⟨x0,x1,x2,x3,rfl⟩
 obtain ⟨t0,e0,w0⟩ := hwl 0 _ _ rfl rfl
 rw [ty29] at e0
 obtain rfl := Option.some.inj e0
 obtain ⟨t1,e1,w1⟩ := hwl 1 _ _ rfl rfl
 rw [ty88] at e1
 obtain rfl := Option.some.inj e1
 obtain ⟨t2,e2,w2⟩ := hwl 2 _ _ rfl rfl
 rw [ty29] at e2
 obtain rfl := Option.some.inj e2
 obtain ⟨t3,e3,w3⟩ := hwl 3 _ _ rfl rfl
 rw [ty88] at e3
 obtain rfl := Option.some.inj e3
 refine (law_calls fits Tryz.func12 (by kernel_rfl) ki12 rfl rfl ha (b := true) (by show rn _ _ = _; simpa using law12 w0 w1 w2 w3)).mono fun e W' ⟨he,bel⟩ => ?_
 subst he
 exact ⟨_,rfl,_,_,_,[],p,_,hW',trodAll_mk1 (shut_bool Tryz.underlying4 _),trodAll_below laid _ _ _ _ (read_of (by kernel_rfl)) hB bel (fun z hz => hW'.lt z (by simp [hz])),rfl,bel.frame _,fun h => by cases h⟩
theorem over : Rows.fnExactCompareProgramsRow.holds Tryz.pinned (OpenSpec.ofChange Rows.fnExactCompareProgramsSpec) :=
 OpenClaim.holds_of_wide 12 Tryz.f12 rfl rfl rfl rfl rfl rfl rfl ⟨rfl,rfl,rfl,rfl,rfl⟩ rfl rfl rfl rfl rfl named Tryz.func12 closed
  (of_decide_eq_true (by kernel_rfl)) (by unfold Func.isWrapper; first | (rw [if_pos (by decide +kernel)]; kernel_rfl) | (rw [if_neg (by decide +kernel)]; exact ⟨rfl,rfl⟩))
  (fun os started H enc _ => lifted os started H enc)
theorem proved : Rows.FnExactCompareProgramsSaid := over
end Go.Proofs.YthlngiieofkmiaaGreat.fnExactComparePrograms
namespace Go.Proofs.YthlngiieofkmiaaGreat
theorem fnExactComparePrograms_holds : Rows.FnExactCompareProgramsSaid := fnExactComparePrograms.proved
end Go.Proofs.YthlngiieofkmiaaGreat
