/- The functions of this seat, walked in that logic. -/
import Derived.Test.YtmahppdampmpfaaT8
set_option linter.unusedVariables false
set_option linter.unusedSimpArgs false
namespace Go.RF.S
open Go Go.Proofs Go.RF
theorem w84 (xs : List Tm) (hx : xs.length ≤ 281474976710656) (p : Tm → Bool) (f : FuncId) (fn : Func) (caps : List D) (hf : Try.prog.funcs[f]? = some fn) (hfb : (fn.body.isNone || fn.name == "runtime.NumGoroutine") = false)
    (hp : ∀ x ∈ xs, PC Try.prog f (([vT x] ++ caps.map fun d => V.one (dv d)).map .val) [vB (p x)] []) :
    PC Try.prog 84 ([vTs xs, vF f caps].map .val) [vI (idxL p xs 0)] [] := by
  refine PC_of Try.func84 rfl rfl Try.ntmps84 (by simp) fun E hP hnt hnp => ?_
  simp only [vTs, vI, vF, List.map_cons, List.map_nil, dv_raw, dv_sl, dv_ptr, dv_fn, inMap, Nat.reduceAdd]
  refine Wp.seq ?_
  refine Wp.regionE [0, 1, 4, 5, 7, 8] (by simp [trim]; exact .mk _) ?_
  refine ExL.st Hz hP hnt rfl rfl (by decide) (by simp [go_sem]; exact .mk _ _) (by first | exact True.intro | exact und9 | exact und4 | (unfold r64; omega) | omega | (simp; omega)) ?_
  refine ExL.nil ?_
  refine Wp.seq ?_
  refine Wp.seq ?_
  refine Wp.regionE [0, 1, 4, 5, 7, 8] (by simp [trim]; exact .mk _) ?_
  refine ExL.st Hz hP hnt rfl rfl (by decide) (by simp [go_sem]; exact .mk _ _) (by first | exact True.intro | exact und9 | exact und4 | (unfold r64; omega) | omega | (simp; omega)) ?_
  refine ExL.st Hz hP hnt rfl rfl (by decide) (by simp [go_sem]; exact .mk _ _) (by first | exact True.intro | exact und9 | exact und4 | (unfold r64; omega) | omega | (simp; omega)) ?_
  refine ExL.st Hz hP hnt rfl rfl (by decide) (by simp [go_sem]; exact .mk _ _) (by first | exact True.intro | exact und9 | exact und4 | (unfold r64; omega) | omega | (simp; omega)) ?_
  refine ExL.nil ?_
  refine Wp.block ?_
  refine Wp.loop (ι := { j : Nat // j ≤ xs.length ∧ idxL p xs 0 = idxL p (xs.drop j) j }) (fun j => [(0, .val (vTs xs)), (3, .val (vF f caps)), (21, .val (vI xs.length)), (24, .val (vI j.1))]) (fun j => xs.length - j.1) ⟨0, by simp, by simp⟩ (LeL.le (by simp [go_sem, LeL, AVle, Vle, ACsle, ACle])) ?_
  intro j
  obtain ⟨i, q1, q2⟩ := j
  show Wp _ _ _ [(0, .val (vTs xs)), (3, .val (vF f caps)), (21, .val (vI xs.length)), (24, .val (vI i))]
  refine Wp.seq ?_
  refine Wp.regionE [0, 1, 4, 5, 7, 8] (by simp [trim]; exact .mk _) ?_
  refine ExL.st Hz hP hnt rfl rfl (by decide) (by simp [go_sem]; exact .mk _ _) (by first | exact True.intro | exact und9 | exact und4 | (unfold r64; omega) | omega | (simp; omega)) ?_
  refine ExL.nil ?_
  refine Wp.seq ?_
  refine Wp.condE (by simp [go_sem]; exact .mk _ _ _) ?_ ?_
  · intro hc1
    try simp at hc1
    refine Wp.skip ?_
    refine Wp.seq ?_
    refine Wp.block ?_
    refine Wp.seq ?_
    refine Wp.regionE [0, 1, 4, 5, 7, 8] (by simp [trim]; exact .mk _) ?_
    refine ExL.st Hz hP hnt rfl rfl (by decide) (by simp [go_sem]; exact .mk _ _) (by first | exact True.intro | exact und9 | exact und4 | (unfold r64; omega) | omega | (simp; omega)) ?_
    refine ExL.st Hz hP hnt rfl rfl (by decide) (by simp [go_sem]; exact .mk _ _) (by first | exact True.intro | exact und9 | exact und4 | (unfold r64; omega) | omega | (simp; omega)) ?_
    refine ExL.nil ?_
    refine Wp.seq ?_
    refine Wp.regionE [0, 1, 4, 5, 7, 8] (by simp [trim]; exact .mk _) ?_
    refine ExL.st Hz hP hnt rfl rfl (by decide) (by simp [go_sem]; exact .mk _ _) (by first | exact True.intro | exact und9 | exact und4 | (unfold r64; omega) | omega | (simp; omega)) ?_
    refine ExL.st Hz hP hnt rfl rfl (by decide) (by simp [go_sem]; exact .mk _ _) (by first | exact True.intro | exact und9 | exact und4 | (unfold r64; omega) | omega | (simp; omega)) ?_
    refine ExL.st Hz hP hnt rfl rfl (by decide) (by simp [go_sem]; exact .mk _ _) (by first | exact True.intro | exact und9 | exact und4 | (unfold r64; omega) | omega | (simp; omega)) ?_
    refine ExL.st Hz hP hnt rfl rfl (by decide) (by simp [go_sem, hc1]; exact .mk _ _) (by first | exact True.intro | exact und9 | exact und4 | (unfold r64; omega) | omega | (simp; omega)) ?_
    refine ExL.st Hz hP hnt rfl rfl (by decide) (by simp [go_sem]; exact .mk _ _) (by first | exact True.intro | exact und9 | exact und4 | (unfold r64; omega) | omega | (simp; omega)) ?_
    refine ExL.callClo (hp xs[i] (by simp)) hf hP hnt rfl rfl (by simp [go_sem]; exact .mk _ _ _ _) rfl (by decide) hfb rfl (by simp [go_sem]; exact .mk _ _) (by simp [go_sem, Vsle, Vle, ACsle, ACle, ACsle.refl]) (by simp [go_sem]) ?_
    refine ExL.nil ?_
    refine Wp.condE (by simp [go_sem]; exact .mk _ _ _) ?_ ?_
    · intro hc2
      try simp at hc2
      refine Wp.seq ?_
      refine Wp.regionE [0, 1, 4, 5, 7, 8] (by simp [trim]; exact .mk _) ?_
      refine ExL.st Hz hP hnt rfl rfl (by decide) (by simp [go_sem]; exact .mk _ _) (by first | exact True.intro | exact und9 | exact und4 | (unfold r64; omega) | omega | (simp; omega)) ?_
      refine ExL.st Hz hP hnt rfl rfl (by decide) (by simp [go_sem]; exact .mk _ _) (by first | exact True.intro | exact und9 | exact und4 | (unfold r64; omega) | omega | (simp; omega)) ?_
      refine ExL.nil ?_
      refine Wp.ret ?_
      refine retQ.mk (by simp [go_sem]; exact .mk _ _) ?_
      first | (simp [go_sem, Vsle, Vle, ACle, q2, idxL_drop p xs i hc1, hc2]; done) | (simp [go_sem, Vsle, Vle, ACle, q2, List.drop_eq_nil_of_le (show xs.length ≤ i by omega), idxL]; done)
    · intro hc2
      try simp at hc2
      refine Wp.skip ?_
      refine Wp.regionE [0, 1, 4, 5, 7, 8] (by simp [trim]; exact .mk _) ?_
      refine ExL.st Hz hP hnt rfl rfl (by decide) (by simp [go_sem]; exact .mk _ _) (by first | exact True.intro | exact und9 | exact und4 | (unfold r64; omega) | omega | (simp; omega)) ?_
      refine ExL.st Hz hP hnt rfl rfl (by decide) (by simp [go_sem]; exact .mk _ _) (by first | exact True.intro | exact und9 | exact und4 | (unfold r64; omega) | omega | (simp; omega)) ?_
      refine ExL.nil ?_
      exact ⟨⟨i + 1, hc1, by rw [q2, idxL_drop p xs i hc1, hc2]; simp⟩, LeL.le (by simp [go_sem, LeL, AVle, Vle, ACsle, ACle]), by show xs.length - (i + 1) < xs.length - i; omega⟩
  · intro hc1
    try simp at hc1
    refine Wp.exit ?_
    refine Wp.seq ?_
    refine Wp.regionE [0, 1, 4, 5, 7, 8] (by simp [trim]; exact .mk _) ?_
    refine ExL.st Hz hP hnt rfl rfl (by decide) (by simp [go_sem]; exact .mk _ _) (by first | exact True.intro | exact und9 | exact und4 | (unfold r64; omega) | omega | (simp; omega)) ?_
    refine ExL.nil ?_
    refine Wp.ret ?_
    refine retQ.mk (by simp [go_sem]; exact .mk _ _) ?_
    first | (simp [go_sem, Vsle, Vle, ACle, q2, idxL_drop p xs i hc1, hc2]; done) | (simp [go_sem, Vsle, Vle, ACle, q2, List.drop_eq_nil_of_le (show xs.length ≤ i by omega), idxL]; done)
theorem w47 (xs : List Tm) (f : FuncId) (caps : List D) (p : Tm → Bool)
    (h84 : PC Try.prog 84 ([vTs xs, vF f caps].map .val) [vI (idxL p xs 0)] []) :
    PC Try.prog 47 ([vTs xs, vF f caps].map .val) [vB (xs.any p)] [] := by
  refine PC_of Try.func47 rfl rfl Try.ntmps47 (by simp) fun E hP hnt hnp => ?_
  simp only [vTs, vI, vF, List.map_cons, List.map_nil, dv_raw, dv_sl, dv_ptr, dv_fn, inMap, Nat.reduceAdd]
  refine Wp.seq ?_
  refine Wp.regionE [0, 1, 4] (by simp [trim]; exact .mk _) ?_
  refine ExL.st Hz hP hnt rfl rfl (by decide) (by simp [go_sem]; exact .mk _ _) (by first | exact True.intro | exact und9 | exact und4 | (unfold r64; omega) | omega | (simp; omega)) ?_
  refine ExL.nil ?_
  refine Wp.seq ?_
  refine Wp.regionE [0, 1, 4] (by simp [trim]; exact .mk _) ?_
  refine ExL.st Hz hP hnt rfl rfl (by decide) (by simp [go_sem]; exact .mk _ _) (by first | exact True.intro | exact und9 | exact und4 | (unfold r64; omega) | omega | (simp; omega)) ?_
  refine ExL.st Hz hP hnt rfl rfl (by decide) (by simp [go_sem]; exact .mk _ _) (by first | exact True.intro | exact und9 | exact und4 | (unfold r64; omega) | omega | (simp; omega)) ?_
  refine ExL.call (h84) Try.func84 hP hnt rfl rfl rfl (by decide) (by kernel_rfl) rfl (by simp [go_sem]; exact .mk _ _) (by simp [go_sem, Vsle, Vle, ACsle, ACle, ACsle.refl]) (by simp [go_sem]) ?_
  refine ExL.st Hz hP hnt rfl rfl (by decide) (by simp [go_sem]; exact .mk _ _) (by first | exact True.intro | exact und9 | exact und4 | (unfold r64; omega) | omega | (simp; omega)) ?_
  refine ExL.st Hz hP hnt rfl rfl (by decide) (by simp [go_sem]; exact .mk _ _) (by first | exact True.intro | exact und9 | exact und4 | (unfold r64; omega) | omega | (simp; omega)) ?_
  refine ExL.nil ?_
  refine Wp.ret ?_
  refine retQ.mk (by simp [go_sem]; exact .mk _ _) ?_
  simp [go_sem, Vsle, Vle, ACle, idxL_any]
theorem w17 (a : ByteArray) (k n : Int) (s : ByteArray) (xs : List Tm)
    (h47 : PC Try.prog 47 ([vTs xs, vF 48 [.ptr [.raw (.string a)]]].map .val) [vB (xs.any (hasOp a))] []) :
    PC Try.prog 17 ([vT (.mk k n s xs), vS a].map .val) [vB (hasOp a (.mk k n s xs))] [] := by
  refine PC_of Try.func17 rfl rfl Try.ntmps17 (by simp) fun E hP hnt hnp => ?_
  simp only [vT, Tm.ds_mk, vS, List.map_cons, List.map_nil, dv_raw, dv_sl, dv_ptr, dv_fn, inMap, Nat.reduceAdd]
  refine Wp.seq ?_
  refine Wp.regionE [0, 1, 2, 3, 4] (by simp [trim]; exact .mk _) ?_
  refine ExL.ef Hz hP hnt hnp rfl (by decide) (by simp [go_sem]; exact .mk _ _) trivial ?_
  refine ExL.ef Hz hP hnt hnp rfl (by decide) (by simp [go_sem]; exact .mk _ _) trivial ?_
  refine ExL.st Hz hP hnt rfl rfl (by decide) (by simp [go_sem]; exact .mk _ _) (by first | exact True.intro | exact und9 | exact und4 | (unfold r64; omega) | omega | (simp; omega)) ?_
  refine ExL.nil ?_
  refine Wp.seq ?_
  refine Wp.seq ?_
  refine Wp.regionE [0, 1, 2, 3, 4] (by simp [trim]; exact .mk _) ?_
  refine ExL.st Hz hP hnt rfl rfl (by decide) (by simp [go_sem]; exact .mk _ _) (by first | exact True.intro | exact und9 | exact und4 | (unfold r64; omega) | omega | (simp; omega)) ?_
  refine ExL.st Hz hP hnt rfl rfl (by decide) (by simp [go_sem]; exact .mk _ _) (by first | exact True.intro | exact und9 | exact und4 | (unfold r64; omega) | omega | (simp; omega)) ?_
  refine ExL.st Hz hP hnt rfl rfl (by decide) (by simp [go_sem]; exact .mk _ _) (by first | exact True.intro | exact und9 | exact und4 | (unfold r64; omega) | omega | (simp; omega)) ?_
  refine ExL.st Hz hP hnt rfl rfl (by decide) (by simp [go_sem]; exact .mk _ _) (by first | exact True.intro | exact und9 | exact und4 | (unfold r64; omega) | omega | (simp; omega)) ?_
  refine ExL.splitE 8 (by simp [look]; exact .mk _ _ _) (by simp [put]; exact .mk _) (by simp [put]; exact .mk _) ?_ ?_
  · intro hg1
    try simp at hg1
    refine ExL.stOnE Hz hP hnt rfl rfl (by decide) rfl (by decide) (by simp [look]; exact .mk _ _ _) rfl (by simp [go_sem]; exact .mk _ _) (by first | exact True.intro | exact und9 | exact und4 | (unfold r64; omega) | omega | (simp; omega)) ?_
    refine ExL.stOnE Hz hP hnt rfl rfl (by decide) rfl (by decide) (by simp [look]; exact .mk _ _ _) rfl (by simp [go_sem]; exact .mk _ _) (by first | exact True.intro | exact und9 | exact und4 | (unfold r64; omega) | omega | (simp; omega)) ?_
    refine ExL.stOnE Hz hP hnt rfl rfl (by decide) rfl (by decide) (by simp [look]; exact .mk _ _ _) rfl (by simp [go_sem]; exact .mk _ _) (by first | exact True.intro | exact und9 | exact und4 | (unfold r64; omega) | omega | (simp; omega)) ?_
    refine ExL.stOnE Hz hP hnt rfl rfl (by decide) rfl (by decide) (by simp [look]; exact .mk _ _ _) rfl (by simp [go_sem]; exact .mk _ _) (by first | exact True.intro | exact und9 | exact und4 | (unfold r64; omega) | omega | (simp; omega)) ?_
    refine ExL.st Hz hP hnt rfl rfl (by decide) (by simp [go_sem]; exact .mk _ _) (by first | exact True.intro | exact und9 | exact und4 | (unfold r64; omega) | omega | (simp; omega)) ?_
    refine ExL.nil ?_
    refine Wp.condE (by simp [go_sem]; exact .mk _ _ _) ?_ ?_
    · intro hc2
      try simp at hc2
      refine Wp.seq ?_
      refine Wp.regionE [0, 1, 2, 3, 4] (by simp [trim]; exact .mk _) ?_
      refine ExL.st Hz hP hnt rfl rfl (by decide) (by simp [go_sem]; exact .mk _ _) (by first | exact True.intro | exact und9 | exact und4 | (unfold r64; omega) | omega | (simp; omega)) ?_
      refine ExL.nil ?_
      refine Wp.ret ?_
      refine retQ.mk (by simp [go_sem]; exact .mk _ _) ?_
      simp [go_sem, Vsle, Vle, ACle, hasOp_mk, hasOpL_any, *]
    · intro hc2
      try simp at hc2
      refine Wp.skip ?_
      refine Wp.seq ?_
      refine Wp.regionE [0, 1, 2, 3, 4] (by simp [trim]; exact .mk _) ?_
      refine ExL.st Hz hP hnt rfl rfl (by decide) (by simp [go_sem]; exact .mk _ _) (by first | exact True.intro | exact und9 | exact und4 | (unfold r64; omega) | omega | (simp; omega)) ?_
      refine ExL.st Hz hP hnt rfl rfl (by decide) (by simp [go_sem]; exact .mk _ _) (by first | exact True.intro | exact und9 | exact und4 | (unfold r64; omega) | omega | (simp; omega)) ?_
      refine ExL.freezePtr 3 3 hnp (by decide) (by simp [look]) (by simp [look]; rfl) (by simp [dsOf, dOf]; rfl) (by simp [go_sem]; exact .mk _) ?_
      refine ExL.mkFunc hnt rfl rfl (by decide) rfl (by simp [go_sem, capDs]; exact .mk _) (by simp [go_sem]; exact .mk _) ?_
      refine ExL.call (h47) Try.func47 hP hnt rfl rfl rfl (by decide) (by kernel_rfl) rfl (by simp [go_sem]; exact .mk _ _) (by simp [go_sem, Vsle, Vle, ACsle, ACle, ACsle.refl]) (by simp [go_sem]) ?_
      refine ExL.st Hz hP hnt rfl rfl (by decide) (by simp [go_sem]; exact .mk _ _) (by first | exact True.intro | exact und9 | exact und4 | (unfold r64; omega) | omega | (simp; omega)) ?_
      refine ExL.nil ?_
      refine Wp.ret ?_
      refine retQ.mk (by simp [go_sem]; exact .mk _ _) ?_
      simp [go_sem, Vsle, Vle, ACle, hasOp_mk, hasOpL_any, *]
  · intro hg1
    try simp at hg1
    refine ExL.offE hnt rfl rfl (by decide) (by simp [look]; exact .mk _ _ _) rfl rfl (by decide) (by simp [put]; exact .mk _) ?_
    refine ExL.offE hnt rfl rfl (by decide) (by simp [look]; exact .mk _ _ _) rfl rfl (by decide) (by simp [put]; exact .mk _) ?_
    refine ExL.offE hnt rfl rfl (by decide) (by simp [look]; exact .mk _ _ _) rfl rfl (by decide) (by simp [put]; exact .mk _) ?_
    refine ExL.offE hnt rfl rfl (by decide) (by simp [look]; exact .mk _ _ _) rfl rfl (by decide) (by simp [put]; exact .mk _) ?_
    refine ExL.st Hz hP hnt rfl rfl (by decide) (by simp [go_sem]; exact .mk _ _) (by first | exact True.intro | exact und9 | exact und4 | (unfold r64; omega) | omega | (simp; omega)) ?_
    refine ExL.nil ?_
    refine Wp.condE (by simp [go_sem]; exact .mk _ _ _) ?_ ?_
    · intro hc3
      simp at hc3
    · intro hc3
      try simp at hc3
      refine Wp.skip ?_
      refine Wp.seq ?_
      refine Wp.regionE [0, 1, 2, 3, 4] (by simp [trim]; exact .mk _) ?_
      refine ExL.st Hz hP hnt rfl rfl (by decide) (by simp [go_sem]; exact .mk _ _) (by first | exact True.intro | exact und9 | exact und4 | (unfold r64; omega) | omega | (simp; omega)) ?_
      refine ExL.st Hz hP hnt rfl rfl (by decide) (by simp [go_sem]; exact .mk _ _) (by first | exact True.intro | exact und9 | exact und4 | (unfold r64; omega) | omega | (simp; omega)) ?_
      refine ExL.freezePtr 3 3 hnp (by decide) (by simp [look]) (by simp [look]; rfl) (by simp [dsOf, dOf]; rfl) (by simp [go_sem]; exact .mk _) ?_
      refine ExL.mkFunc hnt rfl rfl (by decide) rfl (by simp [go_sem, capDs]; exact .mk _) (by simp [go_sem]; exact .mk _) ?_
      refine ExL.call (h47) Try.func47 hP hnt rfl rfl rfl (by decide) (by kernel_rfl) rfl (by simp [go_sem]; exact .mk _ _) (by simp [go_sem, Vsle, Vle, ACsle, ACle, ACsle.refl]) (by simp [go_sem]) ?_
      refine ExL.st Hz hP hnt rfl rfl (by decide) (by simp [go_sem]; exact .mk _ _) (by first | exact True.intro | exact und9 | exact und4 | (unfold r64; omega) | omega | (simp; omega)) ?_
      refine ExL.nil ?_
      refine Wp.ret ?_
      refine retQ.mk (by simp [go_sem]; exact .mk _ _) ?_
      simp [go_sem, Vsle, Vle, ACle, hasOp_mk, hasOpL_any, *]
theorem w48 (a : ByteArray) (x : Tm)
    (h17 : PC Try.prog 17 ([vT x, vS a].map .val) [vB (hasOp a x)] []) :
    PC Try.prog 48 (([vT x] ++ [D.ptr [.raw (.string a)]].map fun d => V.one (dv d)).map .val) [vB (hasOp a x)] [] := by
  refine PC_of Try.func48 rfl rfl Try.ntmps48 (by simp) fun E hP hnt hnp => ?_
  simp only [vT, vS, List.cons_append, List.nil_append, List.map_cons, List.map_nil, dv_raw, dv_sl, dv_ptr, dv_fn, inMap, Nat.reduceAdd]
  refine Wp.seq ?_
  refine Wp.regionE [0, 1, 2, 3] (by simp [trim]; exact .mk _) ?_
  refine ExL.ef Hz hP hnt hnp rfl (by decide) (by simp [go_sem]; exact .mk _ _) trivial ?_
  refine ExL.st Hz hP hnt rfl rfl (by decide) (by simp [go_sem]; exact .mk _ _) (by first | exact True.intro | exact und9 | exact und4 | (unfold r64; omega) | omega | (simp; omega)) ?_
  refine ExL.nil ?_
  refine Wp.seq ?_
  refine Wp.regionE [0, 1, 2, 3] (by simp [trim]; exact .mk _) ?_
  refine ExL.st Hz hP hnt rfl rfl (by decide) (by simp [go_sem]; exact .mk _ _) (by first | exact True.intro | exact und9 | exact und4 | (unfold r64; omega) | omega | (simp; omega)) ?_
  refine ExL.st Hz hP hnt rfl rfl (by decide) (by simp [go_sem]; exact .mk _ _) (by first | exact True.intro | exact und9 | exact und4 | (unfold r64; omega) | omega | (simp; omega)) ?_
  refine ExL.call (h17) Try.func17 hP hnt rfl rfl rfl (by decide) (by kernel_rfl) rfl (by simp [go_sem]; exact .mk _ _) (by simp [go_sem, Vsle, Vle, ACsle, ACle, ACsle.refl]) (by simp [go_sem]) ?_
  refine ExL.st Hz hP hnt rfl rfl (by decide) (by simp [go_sem]; exact .mk _ _) (by first | exact True.intro | exact und9 | exact und4 | (unfold r64; omega) | omega | (simp; omega)) ?_
  refine ExL.nil ?_
  refine Wp.ret ?_
  refine retQ.mk (by simp [go_sem]; exact .mk _ _) ?_
  simp [go_sem, Vsle, Vle, ACle]
end Go.RF.S
