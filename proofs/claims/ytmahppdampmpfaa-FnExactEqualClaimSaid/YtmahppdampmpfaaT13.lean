/- The functions of this seat, walked in that logic. -/
import Derived.Test.YtmahppdampmpfaaT11
import Derived.Test.YtmahppdampmpfaaRF22
set_option linter.unusedVariables false
set_option linter.unusedSimpArgs false
namespace Go.RF.S
open Go Go.Proofs Go.RF
theorem w88 (xs ys : List Tm) (hx : xs.length ≤ 281474976710656) (f : FuncId) (fn : Func) (caps : List D) (hf : Try.prog.funcs[f]? = some fn) (hfb : (fn.body.isNone || fn.name == "runtime.NumGoroutine") = false)
    (hp : ∀ x ∈ xs, ∀ y ∈ ys, PC Try.prog f (([vT x, vT y] ++ caps.map fun d => V.one (dv d)).map .val) [vB (eqT x y)] []) :
    PC Try.prog 88 ([vTs xs, vTs ys, vF f caps].map .val) [vB (eqS xs ys)] [] := by
  refine PC_of Try.func88 rfl rfl Try.ntmps88 (by simp) fun E hP hnt hnp => ?_
  simp only [vTs, vI, vF, List.map_cons, List.map_nil, dv_raw, dv_sl, dv_ptr, dv_fn, inMap, Nat.reduceAdd]
  refine Wp.seq ?_
  refine Wp.regionE [0, 1, 2, 6, 7, 8, 9, 15, 16, 17] (by simp [trim]; exact .mk _) ?_
  refine ExL.st Hz hP hnt rfl rfl (by decide) (by simp [go_sem]; exact .mk _ _) (by first | exact True.intro | exact und9 | exact und4 | (unfold r64; omega) | omega | (simp; omega)) ?_
  refine ExL.nil ?_
  refine Wp.seq ?_
  refine Wp.seq ?_
  refine Wp.regionE [0, 1, 2, 6, 7, 8, 9, 15, 16, 17] (by simp [trim]; exact .mk _) ?_
  refine ExL.st Hz hP hnt rfl rfl (by decide) (by simp [go_sem]; exact .mk _ _) (by first | exact True.intro | exact und9 | exact und4 | (unfold r64; omega) | omega | (simp; omega)) ?_
  refine ExL.st Hz hP hnt rfl rfl (by decide) (by simp [go_sem]; exact .mk _ _) (by first | exact True.intro | exact und9 | exact und4 | (unfold r64; omega) | omega | (simp; omega)) ?_
  refine ExL.st Hz hP hnt rfl rfl (by decide) (by simp [go_sem]; exact .mk _ _) (by first | exact True.intro | exact und9 | exact und4 | (unfold r64; omega) | omega | (simp; omega)) ?_
  refine ExL.st Hz hP hnt rfl rfl (by decide) (by simp [go_sem]; exact .mk _ _) (by first | exact True.intro | exact und9 | exact und4 | (unfold r64; omega) | omega | (simp; omega)) ?_
  refine ExL.st Hz hP hnt rfl rfl (by decide) (by simp [go_sem]; exact .mk _ _) (by first | exact True.intro | exact und9 | exact und4 | (unfold r64; omega) | omega | (simp; omega)) ?_
  refine ExL.nil ?_
  refine Wp.condE (by simp [go_sem]; exact .mk _ _ _) ?_ ?_
  · intro hc1
    try simp at hc1
    refine Wp.seq ?_
    refine Wp.regionE [0, 1, 2, 6, 7, 8, 9, 15, 16, 17] (by simp [trim]; exact .mk _) ?_
    refine ExL.st Hz hP hnt rfl rfl (by decide) (by simp [go_sem]; exact .mk _ _) (by first | exact True.intro | exact und9 | exact und4 | (unfold r64; omega) | omega | (simp; omega)) ?_
    refine ExL.nil ?_
    refine Wp.ret ?_
    refine retQ.mk (by simp [go_sem]; exact .mk _ _) ?_
    first | (have hne : ¬ xs.length = ys.length := (by omega); simp [go_sem, Vsle, Vle, ACle, eqS, hne]; done) | (simp [go_sem, Vsle, Vle, ACle, eqS, q2, eqL_drop xs ys i hc2 (by omega), hlen, hc3]; done) | (simp [go_sem, Vsle, Vle, ACle, eqS, q2, hlen]; rw [List.drop_eq_nil_of_le (by omega)]; simp [eqL])
  · intro hc1
    try simp at hc1
    refine Wp.skip ?_
    refine Wp.seq ?_
    refine Wp.seq ?_
    refine Wp.regionE [0, 1, 2, 6, 7, 8, 9, 15, 16, 17] (by simp [trim]; exact .mk _) ?_
    refine ExL.st Hz hP hnt rfl rfl (by decide) (by simp [go_sem]; exact .mk _ _) (by first | exact True.intro | exact und9 | exact und4 | (unfold r64; omega) | omega | (simp; omega)) ?_
    refine ExL.st Hz hP hnt rfl rfl (by decide) (by simp [go_sem]; exact .mk _ _) (by first | exact True.intro | exact und9 | exact und4 | (unfold r64; omega) | omega | (simp; omega)) ?_
    refine ExL.st Hz hP hnt rfl rfl (by decide) (by simp [go_sem]; exact .mk _ _) (by first | exact True.intro | exact und9 | exact und4 | (unfold r64; omega) | omega | (simp; omega)) ?_
    refine ExL.nil ?_
    refine Wp.block ?_
    refine Wp.loop (ι := { j : Nat // j ≤ xs.length ∧ eqL xs ys = eqL (xs.drop j) (ys.drop j) }) (fun j => [(0, .val (vTs xs)), (3, .val (vTs ys)), (6, .val (vF f caps)), (45, .val (vTs xs)), (48, .val (vI xs.length)), (51, .val (vI j.1))]) (fun j => xs.length - j.1) ⟨0, by simp, by simp⟩ (LeL.le (by simp [go_sem, LeL, AVle, Vle, ACsle, ACle])) ?_
    intro j
    obtain ⟨i, q1, q2⟩ := j
    show Wp _ _ _ [(0, .val (vTs xs)), (3, .val (vTs ys)), (6, .val (vF f caps)), (45, .val (vTs xs)), (48, .val (vI xs.length)), (51, .val (vI i))]
    have hlen : xs.length = ys.length := by omega
    have hlt : i < xs.length → i < ys.length := fun h => by omega
    refine Wp.seq ?_
    refine Wp.regionE [0, 1, 2, 6, 7, 8, 9, 15, 16, 17] (by simp [trim]; exact .mk _) ?_
    refine ExL.st Hz hP hnt rfl rfl (by decide) (by simp [go_sem]; exact .mk _ _) (by first | exact True.intro | exact und9 | exact und4 | (unfold r64; omega) | omega | (simp; omega)) ?_
    refine ExL.nil ?_
    refine Wp.seq ?_
    refine Wp.condE (by simp [go_sem]; exact .mk _ _ _) ?_ ?_
    · intro hc2
      try simp at hc2
      refine Wp.skip ?_
      refine Wp.seq ?_
      refine Wp.block ?_
      refine Wp.seq ?_
      refine Wp.regionE [0, 1, 2, 6, 7, 8, 9, 15, 16, 17] (by simp [trim]; exact .mk _) ?_
      refine ExL.st Hz hP hnt rfl rfl (by decide) (by simp [go_sem]; exact .mk _ _) (by first | exact True.intro | exact und9 | exact und4 | (unfold r64; omega) | omega | (simp; omega)) ?_
      refine ExL.st Hz hP hnt rfl rfl (by decide) (by simp [go_sem, hc2]; exact .mk _ _) (by first | exact True.intro | exact und9 | exact und4 | (unfold r64; omega) | omega | (simp; omega)) ?_
      refine ExL.st Hz hP hnt rfl rfl (by decide) (by simp [go_sem]; exact .mk _ _) (by first | exact True.intro | exact und9 | exact und4 | (unfold r64; omega) | omega | (simp; omega)) ?_
      refine ExL.ef Hz hP hnt hnp rfl (by decide) (by simp [go_sem]; exact .mk _ _) trivial ?_
      refine ExL.st Hz hP hnt rfl rfl (by decide) (by simp [go_sem]; exact .mk _ _) (by first | exact True.intro | exact und9 | exact und4 | (unfold r64; omega) | omega | (simp; omega)) ?_
      refine ExL.ef Hz hP hnt hnp rfl (by decide) (by simp [go_sem]; exact .mk _ _) trivial ?_
      refine ExL.nil ?_
      refine Wp.seq ?_
      refine Wp.regionE [0, 1, 2, 6, 7, 8, 9, 15, 16, 17] (by simp [trim]; exact .mk _) ?_
      refine ExL.st Hz hP hnt rfl rfl (by decide) (by simp [go_sem]; exact .mk _ _) (by first | exact True.intro | exact und9 | exact und4 | (unfold r64; omega) | omega | (simp; omega)) ?_
      refine ExL.st Hz hP hnt rfl rfl (by decide) (by simp [go_sem]; exact .mk _ _) (by first | exact True.intro | exact und9 | exact und4 | (unfold r64; omega) | omega | (simp; omega)) ?_
      refine ExL.st Hz hP hnt rfl rfl (by decide) (by simp [go_sem, hc2, hlt]; exact .mk _ _) (by first | exact True.intro | exact und9 | exact und4 | (unfold r64; omega) | omega | (simp; omega)) ?_
      refine ExL.st Hz hP hnt rfl rfl (by decide) (by simp [go_sem]; exact .mk _ _) (by first | exact True.intro | exact und9 | exact und4 | (unfold r64; omega) | omega | (simp; omega)) ?_
      refine ExL.ef Hz hP hnt hnp rfl (by decide) (by simp [go_sem]; exact .mk _ _) trivial ?_
      refine ExL.ef Hz hP hnt hnp rfl (by decide) (by simp [go_sem]; exact .mk _ _) trivial ?_
      refine ExL.nil ?_
      refine Wp.seq ?_
      refine Wp.regionE [0, 1, 2, 6, 7, 8, 9, 15, 16, 17] (by simp [trim]; exact .mk _) ?_
      refine ExL.st Hz hP hnt rfl rfl (by decide) (by simp [go_sem]; exact .mk _ _) (by first | exact True.intro | exact und9 | exact und4 | (unfold r64; omega) | omega | (simp; omega)) ?_
      refine ExL.st Hz hP hnt rfl rfl (by decide) (by simp [go_sem]; exact .mk _ _) (by first | exact True.intro | exact und9 | exact und4 | (unfold r64; omega) | omega | (simp; omega)) ?_
      refine ExL.st Hz hP hnt rfl rfl (by decide) (by simp [go_sem]; exact .mk _ _) (by first | exact True.intro | exact und9 | exact und4 | (unfold r64; omega) | omega | (simp; omega)) ?_
      refine ExL.callClo (hp xs[i] (by simp) (ys[i]'(by omega)) (by simp)) hf hP hnt rfl rfl (by simp [go_sem]; exact .mk _ _ _ _) rfl (by decide) hfb rfl (by simp [go_sem]; exact .mk _ _) (by simp [go_sem, Vsle, Vle, ACsle, ACle, ACsle.refl]) (by simp [go_sem]) ?_
      refine ExL.st Hz hP hnt rfl rfl (by decide) (by simp [go_sem]; exact .mk _ _) (by first | exact True.intro | exact und9 | exact und4 | (unfold r64; omega) | omega | (simp; omega)) ?_
      refine ExL.nil ?_
      refine Wp.condE (by simp [go_sem]; exact .mk _ _ _) ?_ ?_
      · intro hc3
        try simp at hc3
        refine Wp.seq ?_
        refine Wp.regionE [0, 1, 2, 6, 7, 8, 9, 15, 16, 17] (by simp [trim]; exact .mk _) ?_
        refine ExL.st Hz hP hnt rfl rfl (by decide) (by simp [go_sem]; exact .mk _ _) (by first | exact True.intro | exact und9 | exact und4 | (unfold r64; omega) | omega | (simp; omega)) ?_
        refine ExL.nil ?_
        refine Wp.ret ?_
        refine retQ.mk (by simp [go_sem]; exact .mk _ _) ?_
        first | (have hne : ¬ xs.length = ys.length := (by omega); simp [go_sem, Vsle, Vle, ACle, eqS, hne]; done) | (simp [go_sem, Vsle, Vle, ACle, eqS, q2, eqL_drop xs ys i hc2 (by omega), hlen, hc3]; done) | (simp [go_sem, Vsle, Vle, ACle, eqS, q2, hlen]; rw [List.drop_eq_nil_of_le (by omega)]; simp [eqL])
      · intro hc3
        try simp at hc3
        refine Wp.skip ?_
        refine Wp.regionE [0, 1, 2, 6, 7, 8, 9, 15, 16, 17] (by simp [trim]; exact .mk _) ?_
        refine ExL.st Hz hP hnt rfl rfl (by decide) (by simp [go_sem]; exact .mk _ _) (by first | exact True.intro | exact und9 | exact und4 | (unfold r64; omega) | omega | (simp; omega)) ?_
        refine ExL.st Hz hP hnt rfl rfl (by decide) (by simp [go_sem]; exact .mk _ _) (by first | exact True.intro | exact und9 | exact und4 | (unfold r64; omega) | omega | (simp; omega)) ?_
        refine ExL.nil ?_
        exact ⟨⟨i + 1, hc2, by rw [q2, eqL_drop xs ys i hc2 (by omega), hc3, Bool.true_and]⟩, LeL.le (by simp [go_sem, LeL, AVle, Vle, ACsle, ACle]), by show xs.length - (i + 1) < xs.length - i; omega⟩
    · intro hc2
      try simp at hc2
      refine Wp.exit ?_
      refine Wp.seq ?_
      refine Wp.regionE [0, 1, 2, 6, 7, 8, 9, 15, 16, 17] (by simp [trim]; exact .mk _) ?_
      refine ExL.st Hz hP hnt rfl rfl (by decide) (by simp [go_sem]; exact .mk _ _) (by first | exact True.intro | exact und9 | exact und4 | (unfold r64; omega) | omega | (simp; omega)) ?_
      refine ExL.nil ?_
      refine Wp.ret ?_
      refine retQ.mk (by simp [go_sem]; exact .mk _ _) ?_
      first | (have hne : ¬ xs.length = ys.length := (by omega); simp [go_sem, Vsle, Vle, ACle, eqS, hne]; done) | (simp [go_sem, Vsle, Vle, ACle, eqS, q2, eqL_drop xs ys i hc2 (by omega), hlen, hc3]; done) | (simp [go_sem, Vsle, Vle, ACle, eqS, q2, hlen]; rw [List.drop_eq_nil_of_le (by omega)]; simp [eqL])
theorem w56 (k n : Int) (s : ByteArray) (xs : List Tm) (k' n' : Int) (s' : ByteArray) (ys : List Tm)
    (h88 : PC Try.prog 88 ([vTs xs, vTs ys, vF 56 []].map .val) [vB (eqS xs ys)] []) :
    PC Try.prog 56 ([vT (.mk k n s xs), vT (.mk k' n' s' ys)].map .val) [vB (eqT (.mk k n s xs) (.mk k' n' s' ys))] [] := by
  refine PC_of Try.func56 rfl rfl Try.ntmps56 (by simp) fun E hP hnt hnp => ?_
  simp only [vT, Tm.ds_mk, List.map_cons, List.map_nil, dv_raw, dv_sl, dv_ptr, dv_fn, inMap, Nat.reduceAdd]
  refine Wp.seq ?_
  refine Wp.regionE [0, 1, 2, 3, 4] (by simp [trim]; exact .mk _) ?_
  refine ExL.ef Hz hP hnt hnp rfl (by decide) (by simp [go_sem]; exact .mk _ _) trivial ?_
  refine ExL.ef Hz hP hnt hnp rfl (by decide) (by simp [go_sem]; exact .mk _ _) trivial ?_
  refine ExL.st Hz hP hnt rfl rfl (by decide) (by simp [go_sem]; exact .mk _ _) (by first | exact True.intro | exact und9 | exact und4 | (unfold r64; omega) | omega | (simp; omega)) ?_
  refine ExL.nil ?_
  refine Wp.seq ?_
  refine Wp.regionE [0, 1, 2, 3, 4] (by simp [trim]; exact .mk _) ?_
  refine ExL.st Hz hP hnt rfl rfl (by decide) (by simp [go_sem]; exact .mk _ _) (by first | exact True.intro | exact und9 | exact und4 | (unfold r64; omega) | omega | (simp; omega)) ?_
  refine ExL.st Hz hP hnt rfl rfl (by decide) (by simp [go_sem]; exact .mk _ _) (by first | exact True.intro | exact und9 | exact und4 | (unfold r64; omega) | omega | (simp; omega)) ?_
  refine ExL.st Hz hP hnt rfl rfl (by decide) (by simp [go_sem]; exact .mk _ _) (by first | exact True.intro | exact und9 | exact und4 | (unfold r64; omega) | omega | (simp; omega)) ?_
  refine ExL.st Hz hP hnt rfl rfl (by decide) (by simp [go_sem]; exact .mk _ _) (by first | exact True.intro | exact und9 | exact und4 | (unfold r64; omega) | omega | (simp; omega)) ?_
  refine ExL.st Hz hP hnt rfl rfl (by decide) (by simp [go_sem]; exact .mk _ _) (by first | exact True.intro | exact und9 | exact und4 | (unfold r64; omega) | omega | (simp; omega)) ?_
  refine ExL.st Hz hP hnt rfl rfl (by decide) (by simp [go_sem]; exact .mk _ _) (by first | exact True.intro | exact und9 | exact und4 | (unfold r64; omega) | omega | (simp; omega)) ?_
  refine ExL.splitE 10 (by simp [look]; exact .mk _ _ _) (by simp [put]; exact .mk _) (by simp [put]; exact .mk _) ?_ ?_
  · intro hg1
    try simp at hg1
    refine ExL.stOnE Hz hP hnt rfl rfl (by decide) rfl (by decide) (by simp [look]; exact .mk _ _ _) rfl (by simp [go_sem]; exact .mk _ _) (by first | exact True.intro | exact und9 | exact und4 | (unfold r64; omega) | omega | (simp; omega)) ?_
    refine ExL.stOnE Hz hP hnt rfl rfl (by decide) rfl (by decide) (by simp [look]; exact .mk _ _ _) rfl (by simp [go_sem]; exact .mk _ _) (by first | exact True.intro | exact und9 | exact und4 | (unfold r64; omega) | omega | (simp; omega)) ?_
    refine ExL.stOnE Hz hP hnt rfl rfl (by decide) rfl (by decide) (by simp [look]; exact .mk _ _ _) rfl (by simp [go_sem]; exact .mk _ _) (by first | exact True.intro | exact und9 | exact und4 | (unfold r64; omega) | omega | (simp; omega)) ?_
    refine ExL.stOnE Hz hP hnt rfl rfl (by decide) rfl (by decide) (by simp [look]; exact .mk _ _ _) rfl (by simp [go_sem]; exact .mk _ _) (by first | exact True.intro | exact und9 | exact und4 | (unfold r64; omega) | omega | (simp; omega)) ?_
    refine ExL.stOnE Hz hP hnt rfl rfl (by decide) rfl (by decide) (by simp [look]; exact .mk _ _ _) rfl (by simp [go_sem]; exact .mk _ _) (by first | exact True.intro | exact und9 | exact und4 | (unfold r64; omega) | omega | (simp; omega)) ?_
    refine ExL.st Hz hP hnt rfl rfl (by decide) (by simp [go_sem]; exact .mk _ _) (by first | exact True.intro | exact und9 | exact und4 | (unfold r64; omega) | omega | (simp; omega)) ?_
    refine ExL.st Hz hP hnt rfl rfl (by decide) (by simp [go_sem]; exact .mk _ _) (by first | exact True.intro | exact und9 | exact und4 | (unfold r64; omega) | omega | (simp; omega)) ?_
    refine ExL.splitE 17 (by simp [look]; exact .mk _ _ _) (by simp [put]; exact .mk _) (by simp [put]; exact .mk _) ?_ ?_
    · intro hg2
      try simp at hg2
      refine ExL.stOnE Hz hP hnt rfl rfl (by decide) rfl (by decide) (by simp [look]; exact .mk _ _ _) rfl (by simp [go_sem]; exact .mk _ _) (by first | exact True.intro | exact und9 | exact und4 | (unfold r64; omega) | omega | (simp; omega)) ?_
      refine ExL.stOnE Hz hP hnt rfl rfl (by decide) rfl (by decide) (by simp [look]; exact .mk _ _ _) rfl (by simp [go_sem]; exact .mk _ _) (by first | exact True.intro | exact und9 | exact und4 | (unfold r64; omega) | omega | (simp; omega)) ?_
      refine ExL.stOnE Hz hP hnt rfl rfl (by decide) rfl (by decide) (by simp [look]; exact .mk _ _ _) rfl (by simp [go_sem]; exact .mk _ _) (by first | exact True.intro | exact und9 | exact und4 | (unfold r64; omega) | omega | (simp; omega)) ?_
      refine ExL.stOnE Hz hP hnt rfl rfl (by decide) rfl (by decide) (by simp [look]; exact .mk _ _ _) rfl (by simp [go_sem]; exact .mk _ _) (by first | exact True.intro | exact und9 | exact und4 | (unfold r64; omega) | omega | (simp; omega)) ?_
      refine ExL.stOnE Hz hP hnt rfl rfl (by decide) rfl (by decide) (by simp [look]; exact .mk _ _ _) rfl (by simp [go_sem]; exact .mk _ _) (by first | exact True.intro | exact und9 | exact und4 | (unfold r64; omega) | omega | (simp; omega)) ?_
      refine ExL.st Hz hP hnt rfl rfl (by decide) (by simp [go_sem]; exact .mk _ _) (by first | exact True.intro | exact und9 | exact und4 | (unfold r64; omega) | omega | (simp; omega)) ?_
      refine ExL.st Hz hP hnt rfl rfl (by decide) (by simp [go_sem]; exact .mk _ _) (by first | exact True.intro | exact und9 | exact und4 | (unfold r64; omega) | omega | (simp; omega)) ?_
      refine ExL.splitE 24 (by simp [look]; exact .mk _ _ _) (by simp [put]; exact .mk _) (by simp [put]; exact .mk _) ?_ ?_
      · intro hg3
        try simp at hg3
        refine ExL.stOnE Hz hP hnt rfl rfl (by decide) rfl (by decide) (by simp [look]; exact .mk _ _ _) rfl (by simp [go_sem]; exact .mk _ _) (by first | exact True.intro | exact und9 | exact und4 | (unfold r64; omega) | omega | (simp; omega)) ?_
        refine ExL.stOnE Hz hP hnt rfl rfl (by decide) rfl (by decide) (by simp [look]; exact .mk _ _ _) rfl (by simp [go_sem]; exact .mk _ _) (by first | exact True.intro | exact und9 | exact und4 | (unfold r64; omega) | omega | (simp; omega)) ?_
        refine ExL.stOnE Hz hP hnt rfl rfl (by decide) rfl (by decide) (by simp [look]; exact .mk _ _ _) rfl (by simp [go_sem]; exact .mk _ _) (by first | exact True.intro | exact und9 | exact und4 | (unfold r64; omega) | omega | (simp; omega)) ?_
        refine ExL.stOnE Hz hP hnt rfl rfl (by decide) rfl (by decide) (by simp [look]; exact .mk _ _ _) rfl (by simp [go_sem]; exact .mk _ _) (by first | exact True.intro | exact und9 | exact und4 | (unfold r64; omega) | omega | (simp; omega)) ?_
        refine ExL.onK hnt rfl rfl (by decide) (by simp [look]; exact .mk _ _ _) rfl (OpK.call (h88) Try.func88 hP hnt rfl rfl (by decide) (by kernel_rfl) rfl (by simp [go_sem]; exact .mk _ _) (by simp [go_sem, Vsle, Vle, ACsle, ACle, ACsle.refl]) (by simp [go_sem]) (by simp [go_sem]; exact .mk _)) ?_
        refine ExL.st Hz hP hnt rfl rfl (by decide) (by simp [go_sem]; exact .mk _ _) (by first | exact True.intro | exact und9 | exact und4 | (unfold r64; omega) | omega | (simp; omega)) ?_
        refine ExL.st Hz hP hnt rfl rfl (by decide) (by simp [go_sem]; exact .mk _ _) (by first | exact True.intro | exact und9 | exact und4 | (unfold r64; omega) | omega | (simp; omega)) ?_
        refine ExL.nil ?_
        refine Wp.ret ?_
        refine retQ.mk (by simp [go_sem]; exact .mk _ _) ?_
        simp [go_sem, Vsle, Vle, ACle, ACsle, eqT_mk, *]
      · intro hg3
        try simp at hg3
        refine ExL.offE hnt rfl rfl (by decide) (by simp [look]; exact .mk _ _ _) rfl rfl (by decide) (by simp [put]; exact .mk _) ?_
        refine ExL.offE hnt rfl rfl (by decide) (by simp [look]; exact .mk _ _ _) rfl rfl (by decide) (by simp [put]; exact .mk _) ?_
        refine ExL.offE hnt rfl rfl (by decide) (by simp [look]; exact .mk _ _ _) rfl rfl (by decide) (by simp [put]; exact .mk _) ?_
        refine ExL.offE hnt rfl rfl (by decide) (by simp [look]; exact .mk _ _ _) rfl rfl (by decide) (by simp [put]; exact .mk _) ?_
        refine ExL.offE hnt rfl rfl (by decide) (by simp [look]; exact .mk _ _ _) rfl rfl (by decide) (by simp [put]; exact .mk _) ?_
        refine ExL.st Hz hP hnt rfl rfl (by decide) (by simp [go_sem]; exact .mk _ _) (by first | exact True.intro | exact und9 | exact und4 | (unfold r64; omega) | omega | (simp; omega)) ?_
        refine ExL.st Hz hP hnt rfl rfl (by decide) (by simp [go_sem]; exact .mk _ _) (by first | exact True.intro | exact und9 | exact und4 | (unfold r64; omega) | omega | (simp; omega)) ?_
        refine ExL.nil ?_
        refine Wp.ret ?_
        refine retQ.mk (by simp [go_sem]; exact .mk _ _) ?_
        simp [go_sem, Vsle, Vle, ACle, ACsle, eqT_mk, *]
    · intro hg2
      try simp at hg2
      refine ExL.offE hnt rfl rfl (by decide) (by simp [look]; exact .mk _ _ _) rfl rfl (by decide) (by simp [put]; exact .mk _) ?_
      refine ExL.offE hnt rfl rfl (by decide) (by simp [look]; exact .mk _ _ _) rfl rfl (by decide) (by simp [put]; exact .mk _) ?_
      refine ExL.offE hnt rfl rfl (by decide) (by simp [look]; exact .mk _ _ _) rfl rfl (by decide) (by simp [put]; exact .mk _) ?_
      refine ExL.offE hnt rfl rfl (by decide) (by simp [look]; exact .mk _ _ _) rfl rfl (by decide) (by simp [put]; exact .mk _) ?_
      refine ExL.offE hnt rfl rfl (by decide) (by simp [look]; exact .mk _ _ _) rfl rfl (by decide) (by simp [put]; exact .mk _) ?_
      refine ExL.st Hz hP hnt rfl rfl (by decide) (by simp [go_sem]; exact .mk _ _) (by first | exact True.intro | exact und9 | exact und4 | (unfold r64; omega) | omega | (simp; omega)) ?_
      refine ExL.st Hz hP hnt rfl rfl (by decide) (by simp [go_sem]; exact .mk _ _) (by first | exact True.intro | exact und9 | exact und4 | (unfold r64; omega) | omega | (simp; omega)) ?_
      refine ExL.offE hnt rfl rfl (by decide) (by simp [look]; exact .mk _ _ _) rfl rfl (by decide) (by simp [put]; exact .mk _) ?_
      refine ExL.offE hnt rfl rfl (by decide) (by simp [look]; exact .mk _ _ _) rfl rfl (by decide) (by simp [put]; exact .mk _) ?_
      refine ExL.offE hnt rfl rfl (by decide) (by simp [look]; exact .mk _ _ _) rfl rfl (by decide) (by simp [put]; exact .mk _) ?_
      refine ExL.offE hnt rfl rfl (by decide) (by simp [look]; exact .mk _ _ _) rfl rfl (by decide) (by simp [put]; exact .mk _) ?_
      refine ExL.offE hnt rfl rfl (by decide) (by simp [look]; exact .mk _ _ _) rfl rfl (by decide) (by simp [put]; exact .mk _) ?_
      refine ExL.st Hz hP hnt rfl rfl (by decide) (by simp [go_sem]; exact .mk _ _) (by first | exact True.intro | exact und9 | exact und4 | (unfold r64; omega) | omega | (simp; omega)) ?_
      refine ExL.st Hz hP hnt rfl rfl (by decide) (by simp [go_sem]; exact .mk _ _) (by first | exact True.intro | exact und9 | exact und4 | (unfold r64; omega) | omega | (simp; omega)) ?_
      refine ExL.nil ?_
      refine Wp.ret ?_
      refine retQ.mk (by simp [go_sem]; exact .mk _ _) ?_
      simp [go_sem, Vsle, Vle, ACle, ACsle, eqT_mk, *]
  · intro hg1
    try simp at hg1
    refine ExL.offE hnt rfl rfl (by decide) (by simp [look]; exact .mk _ _ _) rfl rfl (by decide) (by simp [put]; exact .mk _) ?_
    refine ExL.offE hnt rfl rfl (by decide) (by simp [look]; exact .mk _ _ _) rfl rfl (by decide) (by simp [put]; exact .mk _) ?_
    refine ExL.offE hnt rfl rfl (by decide) (by simp [look]; exact .mk _ _ _) rfl rfl (by decide) (by simp [put]; exact .mk _) ?_
    refine ExL.offE hnt rfl rfl (by decide) (by simp [look]; exact .mk _ _ _) rfl rfl (by decide) (by simp [put]; exact .mk _) ?_
    refine ExL.offE hnt rfl rfl (by decide) (by simp [look]; exact .mk _ _ _) rfl rfl (by decide) (by simp [put]; exact .mk _) ?_
    refine ExL.st Hz hP hnt rfl rfl (by decide) (by simp [go_sem]; exact .mk _ _) (by first | exact True.intro | exact und9 | exact und4 | (unfold r64; omega) | omega | (simp; omega)) ?_
    refine ExL.st Hz hP hnt rfl rfl (by decide) (by simp [go_sem]; exact .mk _ _) (by first | exact True.intro | exact und9 | exact und4 | (unfold r64; omega) | omega | (simp; omega)) ?_
    refine ExL.offE hnt rfl rfl (by decide) (by simp [look]; exact .mk _ _ _) rfl rfl (by decide) (by simp [put]; exact .mk _) ?_
    refine ExL.offE hnt rfl rfl (by decide) (by simp [look]; exact .mk _ _ _) rfl rfl (by decide) (by simp [put]; exact .mk _) ?_
    refine ExL.offE hnt rfl rfl (by decide) (by simp [look]; exact .mk _ _ _) rfl rfl (by decide) (by simp [put]; exact .mk _) ?_
    refine ExL.offE hnt rfl rfl (by decide) (by simp [look]; exact .mk _ _ _) rfl rfl (by decide) (by simp [put]; exact .mk _) ?_
    refine ExL.offE hnt rfl rfl (by decide) (by simp [look]; exact .mk _ _ _) rfl rfl (by decide) (by simp [put]; exact .mk _) ?_
    refine ExL.st Hz hP hnt rfl rfl (by decide) (by simp [go_sem]; exact .mk _ _) (by first | exact True.intro | exact und9 | exact und4 | (unfold r64; omega) | omega | (simp; omega)) ?_
    refine ExL.st Hz hP hnt rfl rfl (by decide) (by simp [go_sem]; exact .mk _ _) (by first | exact True.intro | exact und9 | exact und4 | (unfold r64; omega) | omega | (simp; omega)) ?_
    refine ExL.offE hnt rfl rfl (by decide) (by simp [look]; exact .mk _ _ _) rfl rfl (by decide) (by simp [put]; exact .mk _) ?_
    refine ExL.offE hnt rfl rfl (by decide) (by simp [look]; exact .mk _ _ _) rfl rfl (by decide) (by simp [put]; exact .mk _) ?_
    refine ExL.offE hnt rfl rfl (by decide) (by simp [look]; exact .mk _ _ _) rfl rfl (by decide) (by simp [put]; exact .mk _) ?_
    refine ExL.offE hnt rfl rfl (by decide) (by simp [look]; exact .mk _ _ _) rfl rfl (by decide) (by simp [put]; exact .mk _) ?_
    refine ExL.offE hnt rfl rfl (by decide) (by simp [look]; exact .mk _ _ _) rfl rfl (by decide) (by simp [put]; exact .mk _) ?_
    refine ExL.st Hz hP hnt rfl rfl (by decide) (by simp [go_sem]; exact .mk _ _) (by first | exact True.intro | exact und9 | exact und4 | (unfold r64; omega) | omega | (simp; omega)) ?_
    refine ExL.st Hz hP hnt rfl rfl (by decide) (by simp [go_sem]; exact .mk _ _) (by first | exact True.intro | exact und9 | exact und4 | (unfold r64; omega) | omega | (simp; omega)) ?_
    refine ExL.nil ?_
    refine Wp.ret ?_
    refine retQ.mk (by simp [go_sem]; exact .mk _ _) ?_
    simp [go_sem, Vsle, Vle, ACle, ACsle, eqT_mk, *]
end Go.RF.S
