/- For all arguments the law FnExactCheckComparison answers true and leaves its arguments as they were; no condition. -/
import Derived.Test.YthlngiieofkmiaaGreatqI
import Derived.Test.YthlngiieofkmiaaGreatqP16
import Derived.Test.YthlngiieofkmiaaGreatqE5
import Derived.Test.YthlngiieofkmiaaGreatRows
import Derived.WalkKit
import Derived.ProofKit
import Derived.OpenShut
import Derived.ShutString
import Derived.ChangeOld
import Derived.Below
import Derived.SizedLaws
set_option linter.unusedVariables false
set_option linter.unusedSimpArgs false
namespace Go.Q.S
open Go Go.Q Go.Proofs
theorem law11c {a0 : Rows} {a1 : Rows} {a2 : Rows} {a3 : Rows} {a4 : Rows} {a5 : Int} {a6 : Int} {a7 : ByteArray} {a8 : Rows} {a9 : Rows} {a10 : Rows} {a11 : Rows} {a12 : Rows} {a13 : Rows} {a14 : Rows} {a15 : Int} {a16 : Int} {a17 : ByteArray} {a18 : Rows} {a19 : Rows} {a20 : Int} {a21 : Int} {a22 : Int} {a23 : Int} {a24 : ByteArray} {a25 : Rows} {a26 : Int} {a27 : Int} {a28 : ByteArray} {a29 : Rows} (w0 : WL H [.sl a0,.sl a1,.sl a2,.sl a3] L29) (w1 : WL H [.sl a4,.int a5,.int a6,.str a7,.sl a8,.sl a9] L88) (w2 : WL H [.sl a10,.sl a11,.sl a12,.sl a13] L29) (w3 : WL H [.sl a14,.int a15,.int a16,.str a17,.sl a18,.sl a19] L88) (w4 : WL H [.int a20,.int a21,.int a22,.int a23,.str a24,.sl a25,.int a26,.int a27,.str a28,.sl a29] L99) : rn ⟨11,0,0⟩ [.sl a0,.sl a1,.sl a2,.sl a3,.sl a4,.int a5,.int a6,.str a7,.sl a8,.sl a9,.sl a10,.sl a11,.sl a12,.sl a13,.sl a14,.int a15,.int a16,.str a17,.sl a18,.sl a19,.int a20,.int a21,.int a22,.int a23,.str a24,.sl a25,.int a26,.int a27,.str a28,.sl a29] = some (0,[.bool true]) := by
 have w0_ := w0
 have w1_ := w1
 have w2_ := w2
 have w3_ := w3
 have w4_ := w4
 show rn _ _ = _
 rw [e11_0_0]
 have e0 := s15 w0 bd20
 simp only [List.cons_append,List.nil_append] at e0
 simp only [e0,Option.bind_some,nth,List.getD_cons_zero,List.getD_cons_succ,D.I,D.S,D.L,D.B]
 by_cases n0 : (sub 1048576 (szL [.sl a0,.sl a1,.sl a2,.sl a3])) < 0
 · simp only [decide_eq_true n0,cond_true]
 have e1 := s48 w1 (Bd.sub bd20 (szL [.sl a0,.sl a1,.sl a2,.sl a3]))
 simp only [List.cons_append,List.nil_append] at e1
 simp only [decide_eq_false n0,cond_false,e1,Option.bind_some,nth,List.getD_cons_zero,List.getD_cons_succ,D.I,D.S,D.L,D.B]
 by_cases n1 : (sub (sub 1048576 (szL [.sl a0,.sl a1,.sl a2,.sl a3])) (szL [.sl a4,.int a5,.int a6,.str a7,.sl a8,.sl a9])) < 0
 · simp only [decide_eq_true n1,cond_true]
 have e2 := s15 w2 (Bd.sub (Bd.sub bd20 (szL [.sl a0,.sl a1,.sl a2,.sl a3])) (szL [.sl a4,.int a5,.int a6,.str a7,.sl a8,.sl a9]))
 simp only [List.cons_append,List.nil_append] at e2
 simp only [decide_eq_false n1,cond_false,e2,Option.bind_some,nth,List.getD_cons_zero,List.getD_cons_succ,D.I,D.S,D.L,D.B]
 by_cases n2 : (sub (sub (sub 1048576 (szL [.sl a0,.sl a1,.sl a2,.sl a3])) (szL [.sl a4,.int a5,.int a6,.str a7,.sl a8,.sl a9])) (szL [.sl a10,.sl a11,.sl a12,.sl a13])) < 0
 · simp only [decide_eq_true n2,cond_true]
 have e3 := s48 w3 (Bd.sub (Bd.sub (Bd.sub bd20 (szL [.sl a0,.sl a1,.sl a2,.sl a3])) (szL [.sl a4,.int a5,.int a6,.str a7,.sl a8,.sl a9])) (szL [.sl a10,.sl a11,.sl a12,.sl a13]))
 simp only [List.cons_append,List.nil_append] at e3
 simp only [decide_eq_false n2,cond_false,e3,Option.bind_some,nth,List.getD_cons_zero,List.getD_cons_succ,D.I,D.S,D.L,D.B]
 by_cases n3 : (sub (sub (sub (sub 1048576 (szL [.sl a0,.sl a1,.sl a2,.sl a3])) (szL [.sl a4,.int a5,.int a6,.str a7,.sl a8,.sl a9])) (szL [.sl a10,.sl a11,.sl a12,.sl a13])) (szL [.sl a14,.int a15,.int a16,.str a17,.sl a18,.sl a19])) < 0
 · simp only [decide_eq_true n3,cond_true]
 have e4 := s55 w4 (Bd.sub (Bd.sub (Bd.sub (Bd.sub bd20 (szL [.sl a0,.sl a1,.sl a2,.sl a3])) (szL [.sl a4,.int a5,.int a6,.str a7,.sl a8,.sl a9])) (szL [.sl a10,.sl a11,.sl a12,.sl a13])) (szL [.sl a14,.int a15,.int a16,.str a17,.sl a18,.sl a19]))
 simp only [List.cons_append,List.nil_append] at e4
 simp only [decide_eq_false n3,cond_false,e4,Option.bind_some,nth,List.getD_cons_zero,List.getD_cons_succ,D.I,D.S,D.L,D.B]
 by_cases n4 : (sub (sub (sub (sub (sub 1048576 (szL [.sl a0,.sl a1,.sl a2,.sl a3])) (szL [.sl a4,.int a5,.int a6,.str a7,.sl a8,.sl a9])) (szL [.sl a10,.sl a11,.sl a12,.sl a13])) (szL [.sl a14,.int a15,.int a16,.str a17,.sl a18,.sl a19])) (szL [.int a20,.int a21,.int a22,.int a23,.str a24,.sl a25,.int a26,.int a27,.str a28,.sl a29])) < 0
 · simp only [decide_eq_true n4,cond_true]
 obtain ⟨m0,k0⟩ := sub_le n0
 obtain ⟨m1,k1⟩ := sub_le n1
 obtain ⟨m2,k2⟩ := sub_le n2
 obtain ⟨m3,k3⟩ := sub_le n3
 obtain ⟨m4,k4⟩ := sub_le n4
 have z0 : (szL [.sl a0,.sl a1,.sl a2,.sl a3]) <= 1048576 := by omega
 have zz0 := z0
 simp only [szL,D.sz] at zz0
 have z1 : (szL [.sl a4,.int a5,.int a6,.str a7,.sl a8,.sl a9]) <= 1048576 := by omega
 have zz1 := z1
 simp only [szL,D.sz] at zz1
 have z2 : (szL [.sl a10,.sl a11,.sl a12,.sl a13]) <= 1048576 := by omega
 have zz2 := z2
 simp only [szL,D.sz] at zz2
 have z3 : (szL [.sl a14,.int a15,.int a16,.str a17,.sl a18,.sl a19]) <= 1048576 := by omega
 have zz3 := z3
 simp only [szL,D.sz] at zz3
 have z4 : (szL [.int a20,.int a21,.int a22,.int a23,.str a24,.sl a25,.int a26,.int a27,.str a28,.sl a29]) <= 1048576 := by omega
 have zz4 := z4
 simp only [szL,D.sz] at zz4
 have u0 : WL H [.sl a0,.sl a1,.sl a2,.sl a3] L45 := WL.conv simR _ w0 (by kernel_rfl)
 obtain ⟨xx0,xx1,xx2,xx3,hh,bu0,cu0,bu1,cu1,bu2,cu2,bu3,cu3⟩ := wl45 u0
 simp only [List.cons.injEq,D.int.injEq,D.bool.injEq,D.str.injEq,D.sl.injEq,and_true] at hh
 obtain ⟨rfl,rfl,rfl,rfl⟩ := hh
 have x0 := c18 z0 w0
 skip
 have u1 : WL H [.sl a4,.int a5,.int a6,.str a7,.sl a8,.sl a9] L92 := WL.conv simR _ w1 (by kernel_rfl)
 obtain ⟨xx0,xx1,xx2,xx3,xx4,xx5,hh,bu4,cu4,bu7,bu8,cu8,bu9,cu9⟩ := wl92 u1
 simp only [List.cons.injEq,D.int.injEq,D.bool.injEq,D.str.injEq,D.sl.injEq,and_true] at hh
 obtain ⟨rfl,rfl,rfl,rfl,rfl,rfl⟩ := hh
 have x1 := c50 z1 w1
 skip
 have u2 : WL H [.sl a10,.sl a11,.sl a12,.sl a13] L45 := WL.conv simR _ w2 (by kernel_rfl)
 obtain ⟨xx0,xx1,xx2,xx3,hh,bu10,cu10,bu11,cu11,bu12,cu12,bu13,cu13⟩ := wl45 u2
 simp only [List.cons.injEq,D.int.injEq,D.bool.injEq,D.str.injEq,D.sl.injEq,and_true] at hh
 obtain ⟨rfl,rfl,rfl,rfl⟩ := hh
 have x2 := c18 z2 w2
 skip
 have u3 : WL H [.sl a14,.int a15,.int a16,.str a17,.sl a18,.sl a19] L92 := WL.conv simR _ w3 (by kernel_rfl)
 obtain ⟨xx0,xx1,xx2,xx3,xx4,xx5,hh,bu14,cu14,bu17,bu18,cu18,bu19,cu19⟩ := wl92 u3
 simp only [List.cons.injEq,D.int.injEq,D.bool.injEq,D.str.injEq,D.sl.injEq,and_true] at hh
 obtain ⟨rfl,rfl,rfl,rfl,rfl,rfl⟩ := hh
 have x3 := c50 z3 w3
 skip
 have u4 : WL H [.int a20,.int a21,.int a22,.int a23,.str a24,.sl a25,.int a26,.int a27,.str a28,.sl a29] L103 := WL.conv simR _ w4 (by kernel_rfl)
 obtain ⟨xx0,xx1,xx2,xx3,xx4,xx5,xx6,xx7,xx8,xx9,hh,bu24,bu25,cu25,bu28,bu29,cu29⟩ := wl103 u4
 simp only [List.cons.injEq,D.int.injEq,D.bool.injEq,D.str.injEq,D.sl.injEq,and_true] at hh
 obtain ⟨rfl,rfl,rfl,rfl,rfl,rfl,rfl,rfl,rfl,rfl⟩ := hh
 have x4 := c57 z4 w4
 skip
 have q0_ := q21 u0 u0
 simp only [eqb_refl,List.cons_append,List.nil_append] at q0_
 have q1_ := q52 u1 u1
 simp only [eqb_refl,List.cons_append,List.nil_append] at q1_
 have q2_ := q21 u2 u2
 simp only [eqb_refl,List.cons_append,List.nil_append] at q2_
 have q3_ := q52 u3 u3
 simp only [eqb_refl,List.cons_append,List.nil_append] at q3_
 have q4_ := q59 u4 u4
 simp only [eqb_refl,List.cons_append,List.nil_append] at q4_
 obtain ⟨dx,rfl,rfl,rfl,rfl,hdxb⟩ := def_of tmTy ty127 rfl ty9 rfl cu0 cu1 cu2 cu3 z0
 obtain ⟨vx,rfl⟩ := strs_of' cu4
 have hvsx := strs_wrs cu4
 obtain ⟨tx,ht_tx,sm_tx⟩ := tm_of tmTy _ [.int a5,.int a6,.str a7,.sl a8] (Nat.lt_succ_self _) (WL.part 1 4 u1) (by have := z1; simp only [szL,D.sz] at this ⊢; omega)
 have wl_tx : WL H tx.row L49 := ht_tx ▸ WL.part 1 4 u1
 have nd_tx := tm_nodes tx
 have ct_tx := tm_cntR tx
 rw [<- ht_tx] at nd_tx
 simp only [szL,D.sz] at nd_tx
 rw [Tm.row_eq] at ht_tx
 simp only [List.cons.injEq,D.int.injEq,D.str.injEq,D.sl.injEq,and_true] at ht_tx
 obtain ⟨rfl,rfl,rfl,rfl⟩ := ht_tx
 have wt_tx := (wt_iff tmTy tx).1 wl_tx
 have hn_tx : tx.nodes <= 1048577 := by omega
 obtain ⟨cx,rfl⟩ := ints_of' cu9
 have hcix := ints_wrs cu9
 simp only [List.length_map] at zz1 nd_tx
 have hsbx : SyB ⟨dx,vx,tx,cx⟩ := ⟨hdxb,by show vx.length <= _; omega,hvsx,wt_tx,hn_tx,by show cx.length <= _; omega⟩
 obtain ⟨dy,rfl,rfl,rfl,rfl,hdyb⟩ := def_of tmTy ty127 rfl ty9 rfl cu10 cu11 cu12 cu13 z2
 obtain ⟨vy,rfl⟩ := strs_of' cu14
 have hvsy := strs_wrs cu14
 obtain ⟨ty,ht_ty,sm_ty⟩ := tm_of tmTy _ [.int a15,.int a16,.str a17,.sl a18] (Nat.lt_succ_self _) (WL.part 1 4 u3) (by have := z3; simp only [szL,D.sz] at this ⊢; omega)
 have wl_ty : WL H ty.row L49 := ht_ty ▸ WL.part 1 4 u3
 have nd_ty := tm_nodes ty
 have ct_ty := tm_cntR ty
 rw [<- ht_ty] at nd_ty
 simp only [szL,D.sz] at nd_ty
 rw [Tm.row_eq] at ht_ty
 simp only [List.cons.injEq,D.int.injEq,D.str.injEq,D.sl.injEq,and_true] at ht_ty
 obtain ⟨rfl,rfl,rfl,rfl⟩ := ht_ty
 have wt_ty := (wt_iff tmTy ty).1 wl_ty
 have hn_ty : ty.nodes <= 1048577 := by omega
 obtain ⟨cy,rfl⟩ := ints_of' cu19
 have hciy := ints_wrs cu19
 simp only [List.length_map] at zz3 nd_ty
 have hsby : SyB ⟨dy,vy,ty,cy⟩ := ⟨hdyb,by show vy.length <= _; omega,hvsy,wt_ty,hn_ty,by show cy.length <= _; omega⟩
 obtain ⟨za,ht_za,sm_za⟩ := tm_of tmTy _ [.int a22,.int a23,.str a24,.sl a25] (Nat.lt_succ_self _) (WL.part 2 4 u4) (by have := z4; simp only [szL,D.sz] at this ⊢; omega)
 have wl_za : WL H za.row L49 := ht_za ▸ WL.part 2 4 u4
 have nd_za := tm_nodes za
 have ct_za := tm_cntR za
 rw [<- ht_za] at nd_za
 simp only [szL,D.sz] at nd_za
 rw [Tm.row_eq] at ht_za
 simp only [List.cons.injEq,D.int.injEq,D.str.injEq,D.sl.injEq,and_true] at ht_za
 obtain ⟨rfl,rfl,rfl,rfl⟩ := ht_za
 have wt_za := (wt_iff tmTy za).1 wl_za
 have hn_za : za.nodes <= 1048577 := by omega
 obtain ⟨zb,ht_zb,sm_zb⟩ := tm_of tmTy _ [.int a26,.int a27,.str a28,.sl a29] (Nat.lt_succ_self _) (WL.part 6 4 u4) (by have := z4; simp only [szL,D.sz] at this ⊢; omega)
 have wl_zb : WL H zb.row L49 := ht_zb ▸ WL.part 6 4 u4
 have nd_zb := tm_nodes zb
 have ct_zb := tm_cntR zb
 rw [<- ht_zb] at nd_zb
 simp only [szL,D.sz] at nd_zb
 rw [Tm.row_eq] at ht_zb
 simp only [List.cons.injEq,D.int.injEq,D.str.injEq,D.sl.injEq,and_true] at ht_zb
 obtain ⟨rfl,rfl,rfl,rfl⟩ := ht_zb
 have wt_zb := (wt_iff tmTy zb).1 wl_zb
 have hn_zb : zb.nodes <= 1048577 := by omega
 have xS := r56 _ _ hsbx hsby a20 a21 za sm_za zb sm_zb
 have xI := r58 _ _ hsbx hsby a20 a21 za sm_za zb sm_zb
 simp only [SyM.row,List.cons_append,List.nil_append] at xS xI
 simp only [decide_eq_false n4,cond_false,x0,x1,x2,x3,x4,q0_,q1_,q2_,q3_,q4_,xS,xI,Option.bind_some,nth,List.getD_cons_zero,List.getD_cons_succ,D.I,D.S,D.L,D.B,List.nil_append,Bool.not_true,cond_false,cond_true,decide_true,beq_self_eq_true,Bool.not_false]
theorem law11 {x0 x1 x2 x3 x4 : List D} (h0 : WL H x0 L29) (h1 : WL H x1 L88) (h2 : WL H x2 L29) (h3 : WL H x3 L88) (h4 : WL H x4 L99) : rn ⟨11,0,0⟩ (x0 ++ (x1 ++ (x2 ++ (x3 ++ (x4))))) = some (0,[.bool true]) := by
 obtain ⟨a0,a1,a2,a3,rfl,_,_,_,_,_,_,_,_⟩ := wl29 h0
 obtain ⟨a4,a5,a6,a7,a8,a9,rfl,_,_,_,_,_,_,_⟩ := wl88 h1
 obtain ⟨a10,a11,a12,a13,rfl,_,_,_,_,_,_,_,_⟩ := wl29 h2
 obtain ⟨a14,a15,a16,a17,a18,a19,rfl,_,_,_,_,_,_,_⟩ := wl88 h3
 obtain ⟨a20,a21,a22,a23,a24,a25,a26,a27,a28,a29,rfl,_,_,_,_,_,_⟩ := wl99 h4
 exact law11c h0 h1 h2 h3 h4
end Go.Q.S
namespace Go.Q.S
open Go Go.Q Go.Proofs
theorem ki11 : H.ki ⟨11,0,0⟩ = some ⟨[(0,argSh ((H.ty 29).getD default)),(1,argSh ((H.ty 88).getD default)),(2,argSh ((H.ty 29).getD default)),(3,argSh ((H.ty 88).getD default)),(4,argSh ((H.ty 99).getD default))],[],[⟨.ret,[(0,.bool)],[]⟩]⟩ := by kernel_rfl
theorem plain11 : plainB Tryz.prog H [3,9,22,23,25,26,27,29,30,32,33,62,88,99,184,187,190,240] = true := by kernel_rfl
end Go.Q.S
namespace Go.Proofs.YthlngiieofkmiaaGreat.fnExactCheckComparison
open Go Go.Q Go.Q.S
open Go.ChangeShapes Go.WideShapes Go.ChangeAt Go.RowKit
open Go.ChangeMaps (open_string shut_string)
theorem own : ownKnob Tryz.prog.godebug = none := by kernel_rfl
theorem laid : laidOutB Tryz.prog = true := by kernel_rfl
set_option maxRecDepth 100000 in
theorem lifted (os : Os) (started : os.Started) (H : Type) (enc : TypeId × Value -> H) :
 ReturnsInHanded {} Tryz.checked os 11 .any (Rows.fnExactCheckComparisonSpec.pre6 enc Tryz.prog Tryz.f11 Rows.fnExactCheckComparisonRow.domain false) (Rows.fnExactCheckComparisonSpec.post enc Tryz.prog Tryz.f11 false true false false) := by
 refine returnsInHanded_of_change_sized (C := Tryz.checked) own started (by kernel_rfl) Tryz.func11
  (ChangeSpec.witness6 (enc := enc) (C := Tryz.checked) false ⟨#[],#[.agg #[.slice none 0 0,.slice none 0 0,.slice none 0 0,.slice none 0 0],.agg #[.slice none 0 0,.int .i64 0,.int .i64 0,.string ByteArray.empty,.slice none 0 0,.slice none 0 0],.agg #[.slice none 0 0,.slice none 0 0,.slice none 0 0,.slice none 0 0],.agg #[.slice none 0 0,.int .i64 0,.int .i64 0,.string ByteArray.empty,.slice none 0 0,.slice none 0 0],.agg #[.int .i64 0,.int .i64 0,.int .i64 0,.int .i64 0,.string ByteArray.empty,.slice none 0 0,.int .i64 0,.int .i64 0,.string ByteArray.empty,.slice none 0 0]],[]⟩ 8 (by kernel_rfl) (by kernel_rfl) (by kernel_rfl) (by kernel_rfl)) ?_
 intro W base args ds gs before hval0 hW hcnd hsz0 _
 have hval : ∀ (j : Nat) t v,Tryz.f11.params[j]? = some t -> args[j]? = some v -> Value.okWide Tryz.prog W .any base t v := hval0
 have hW' := hW
 obtain ⟨p,q,hA0,hV,rfl,hfz,hnd⟩ := hW
 have hA : DataW.TrodAll enc Tryz.prog W 0 (fun _ => true) true Tryz.f11.params.toList args.toList ds p := hA0
 rw [Tryz.params11] at hA hval
 obtain ⟨rfl,rfl⟩ := trodVars_none hV
 have hB := hA
 obtain ⟨v0,vs0,d0,ds0,p0,q0,ha0,rfl,hp0,h0,hr0⟩ := trodAll_cons hA
 obtain ⟨v1,vs1,d1,ds1,p1,q1,rfl,rfl,hp1,h1,hr1⟩ := trodAll_cons hr0
 obtain ⟨v2,vs2,d2,ds2,p2,q2,rfl,rfl,hp2,h2,hr2⟩ := trodAll_cons hr1
 obtain ⟨v3,vs3,d3,ds3,p3,q3,rfl,rfl,hp3,h3,hr3⟩ := trodAll_cons hr2
 obtain ⟨v4,vs4,d4,ds4,p4,q4,rfl,rfl,hp4,h4,hr4⟩ := trodAll_cons hr3
 obtain ⟨rfl,rfl,hpn⟩ := trodAll_nil hr4
 obtain rfl : args = #[v0,v1,v2,v3,v4] := by cases args; simp_all
 obtain ⟨dss,ha,hlen,hwl⟩ := args_data (H := Go.Q.S.H) fits.ty plain11 _ _ _ _ hB (by decide) (fun j t v h h' => hval j t v (by simpa using h) (by simpa using h'))
 obtain ⟨x0,x1,x2,x3,x4,rfl⟩ : ∃ x0 x1 x2 x3 x4,dss = [x0,x1,x2,x3,x4] := by
  match dss,hlen with
  | [x0,x1,x2,x3,x4],_ => exact ⟨x0,x1,x2,x3,x4,rfl⟩
 obtain ⟨t0,e0,w0⟩ := hwl 0 _ _ rfl rfl
 rw [ty29] at e0
 obtain rfl := Option.some.inj e0
 obtain ⟨t1,e1,w1⟩ := hwl 1 _ _ rfl rfl
 rw [ty88] at e1
 obtain rfl := Option.some.inj e1
 obtain ⟨t2,e2,w2⟩ := hwl 2 _ _ rfl rfl
 rw [ty29] at e2
 obtain rfl := Option.some.inj e2
 obtain ⟨t3,e3,w3⟩ := hwl 3 _ _ rfl rfl
 rw [ty88] at e3
 obtain rfl := Option.some.inj e3
 obtain ⟨t4,e4,w4⟩ := hwl 4 _ _ rfl rfl
 rw [ty99] at e4
 obtain rfl := Option.some.inj e4
 refine (law_calls fits Tryz.func11 (by kernel_rfl) ki11 rfl rfl ha (b := true) (by show rn _ _ = _; simpa using law11 w0 w1 w2 w3 w4)).mono fun e W' ⟨he,bel⟩ => ?_
 subst he
 exact ⟨_,rfl,_,_,_,[],p,_,hW',trodAll_mk1 (shut_bool Tryz.underlying4 _),trodAll_below laid _ _ _ _ (read_of (by kernel_rfl)) hB bel (fun z hz => hW'.lt z (by simp [hz])),rfl,bel.frame _,fun h => by cases h⟩
theorem over : Rows.fnExactCheckComparisonRow.holds Tryz.pinned (OpenSpec.ofChange Rows.fnExactCheckComparisonSpec) :=
 OpenClaim.holds_of_wide 11 Tryz.f11 rfl rfl rfl rfl rfl rfl rfl ⟨rfl,rfl,rfl,rfl,rfl⟩ rfl rfl rfl rfl rfl named Tryz.func11 closed
  (of_decide_eq_true (by kernel_rfl)) (by unfold Func.isWrapper; first | (rw [if_pos (by decide +kernel)]; kernel_rfl) | (rw [if_neg (by decide +kernel)]; exact ⟨rfl,rfl⟩))
  (fun os started H enc _ => lifted os started H enc)
theorem proved : Rows.FnExactCheckComparisonSaid := over
end Go.Proofs.YthlngiieofkmiaaGreat.fnExactCheckComparison
namespace Go.Proofs.YthlngiieofkmiaaGreat
theorem fnExactCheckComparison_holds : Rows.FnExactCheckComparisonSaid := fnExactCheckComparison.proved
end Go.Proofs.YthlngiieofkmiaaGreat
