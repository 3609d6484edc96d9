/- The functions of this seat, walked in that logic. -/
import Derived.Test.YtmahppdampmpfaaT6
set_option linter.unusedVariables false
set_option linter.unusedSimpArgs false
namespace Go.RF.S
open Go Go.Proofs Go.RF
theorem w18 (k n : Int) (s : ByteArray) (xs : List Tm) (k' n' : Int) (s' : ByteArray) (xs' : List Tm)
    (h49 : PC Try.prog 49 ([vTs xs, vTs xs'].map .val) [vB (eqS xs xs')] []) :
    PC Try.prog 18 ([vT (.mk k n s xs), vT (.mk k' n' s' xs')].map .val) [vB (eqT (.mk k n s xs) (.mk k' n' s' xs'))] [] := by
  refine PC_of Try.func18 rfl rfl Try.ntmps18 (by simp) fun E hP hnt hnp => ?_
  simp only [vT, Tm.ds_mk, List.map_cons, List.map_nil, dv_raw, dv_sl, dv_ptr, dv_fn, inMap, Nat.reduceAdd]
  refine Wp.seq ?_
  refine Wp.regionE [0, 1, 2, 3, 4] (by simp [trim]; exact .mk _) ?_
  refine ExL.ef Hz hP hnt hnp rfl (by decide) (by simp [go_sem]; exact .mk _ _) trivial ?_
  refine ExL.ef Hz hP hnt hnp rfl (by decide) (by simp [go_sem]; exact .mk _ _) trivial ?_
  refine ExL.st Hz hP hnt rfl rfl (by decide) (by simp [go_sem]; exact .mk _ _) (by first | exact True.intro | exact und9 | exact und4 | (unfold r64; omega) | omega | (simp; omega)) ?_
  refine ExL.nil ?_
  refine Wp.seq ?_
  refine Wp.seq ?_
  refine Wp.regionE [0, 1, 2, 3, 4] (by simp [trim]; exact .mk _) ?_
  refine ExL.st Hz hP hnt rfl rfl (by decide) (by simp [go_sem]; exact .mk _ _) (by first | exact True.intro | exact und9 | exact und4 | (unfold r64; omega) | omega | (simp; omega)) ?_
  refine ExL.st Hz hP hnt rfl rfl (by decide) (by simp [go_sem]; exact .mk _ _) (by first | exact True.intro | exact und9 | exact und4 | (unfold r64; omega) | omega | (simp; omega)) ?_
  refine ExL.st Hz hP hnt rfl rfl (by decide) (by simp [go_sem]; exact .mk _ _) (by first | exact True.intro | exact und9 | exact und4 | (unfold r64; omega) | omega | (simp; omega)) ?_
  refine ExL.st Hz hP hnt rfl rfl (by decide) (by simp [go_sem]; exact .mk _ _) (by first | exact True.intro | exact und9 | exact und4 | (unfold r64; omega) | omega | (simp; omega)) ?_
  refine ExL.st Hz hP hnt rfl rfl (by decide) (by simp [go_sem]; exact .mk _ _) (by first | exact True.intro | exact und9 | exact und4 | (unfold r64; omega) | omega | (simp; omega)) ?_
  refine ExL.nil ?_
  refine Wp.condE (by simp [go_sem]; exact .mk _ _ _) ?_ ?_
  · intro hc1
    try simp at hc1
    refine Wp.seq ?_
    refine Wp.regionE [0, 1, 2, 3, 4] (by simp [trim]; exact .mk _) ?_
    refine ExL.st Hz hP hnt rfl rfl (by decide) (by simp [go_sem]; exact .mk _ _) (by first | exact True.intro | exact und9 | exact und4 | (unfold r64; omega) | omega | (simp; omega)) ?_
    refine ExL.nil ?_
    refine Wp.ret ?_
    refine retQ.mk (by simp [go_sem]; exact .mk _ _) ?_
    simp [go_sem, Vsle, Vle, ACle, ACsle, eqT_mk, *]
  · intro hc1
    try simp at hc1
    refine Wp.skip ?_
    refine Wp.seq ?_
    refine Wp.seq ?_
    refine Wp.regionE [0, 1, 2, 3, 4] (by simp [trim]; exact .mk _) ?_
    refine ExL.st Hz hP hnt rfl rfl (by decide) (by simp [go_sem]; exact .mk _ _) (by first | exact True.intro | exact und9 | exact und4 | (unfold r64; omega) | omega | (simp; omega)) ?_
    refine ExL.st Hz hP hnt rfl rfl (by decide) (by simp [go_sem]; exact .mk _ _) (by first | exact True.intro | exact und9 | exact und4 | (unfold r64; omega) | omega | (simp; omega)) ?_
    refine ExL.st Hz hP hnt rfl rfl (by decide) (by simp [go_sem]; exact .mk _ _) (by first | exact True.intro | exact und9 | exact und4 | (unfold r64; omega) | omega | (simp; omega)) ?_
    refine ExL.st Hz hP hnt rfl rfl (by decide) (by simp [go_sem]; exact .mk _ _) (by first | exact True.intro | exact und9 | exact und4 | (unfold r64; omega) | omega | (simp; omega)) ?_
    refine ExL.st Hz hP hnt rfl rfl (by decide) (by simp [go_sem]; exact .mk _ _) (by first | exact True.intro | exact und9 | exact und4 | (unfold r64; omega) | omega | (simp; omega)) ?_
    refine ExL.nil ?_
    refine Wp.condE (by simp [go_sem]; exact .mk _ _ _) ?_ ?_
    · intro hc2
      try simp at hc2
      refine Wp.seq ?_
      refine Wp.regionE [0, 1, 2, 3, 4] (by simp [trim]; exact .mk _) ?_
      refine ExL.st Hz hP hnt rfl rfl (by decide) (by simp [go_sem]; exact .mk _ _) (by first | exact True.intro | exact und9 | exact und4 | (unfold r64; omega) | omega | (simp; omega)) ?_
      refine ExL.nil ?_
      refine Wp.ret ?_
      refine retQ.mk (by simp [go_sem]; exact .mk _ _) ?_
      simp [go_sem, Vsle, Vle, ACle, ACsle, eqT_mk, *]
    · intro hc2
      try simp at hc2
      refine Wp.skip ?_
      refine Wp.seq ?_
      refine Wp.seq ?_
      refine Wp.regionE [0, 1, 2, 3, 4] (by simp [trim]; exact .mk _) ?_
      refine ExL.st Hz hP hnt rfl rfl (by decide) (by simp [go_sem]; exact .mk _ _) (by first | exact True.intro | exact und9 | exact und4 | (unfold r64; omega) | omega | (simp; omega)) ?_
      refine ExL.st Hz hP hnt rfl rfl (by decide) (by simp [go_sem]; exact .mk _ _) (by first | exact True.intro | exact und9 | exact und4 | (unfold r64; omega) | omega | (simp; omega)) ?_
      refine ExL.st Hz hP hnt rfl rfl (by decide) (by simp [go_sem]; exact .mk _ _) (by first | exact True.intro | exact und9 | exact und4 | (unfold r64; omega) | omega | (simp; omega)) ?_
      refine ExL.st Hz hP hnt rfl rfl (by decide) (by simp [go_sem]; exact .mk _ _) (by first | exact True.intro | exact und9 | exact und4 | (unfold r64; omega) | omega | (simp; omega)) ?_
      refine ExL.st Hz hP hnt rfl rfl (by decide) (by simp [go_sem]; exact .mk _ _) (by first | exact True.intro | exact und9 | exact und4 | (unfold r64; omega) | omega | (simp; omega)) ?_
      refine ExL.nil ?_
      refine Wp.condE (by simp [go_sem]; exact .mk _ _ _) ?_ ?_
      · intro hc3
        try simp at hc3
        refine Wp.seq ?_
        refine Wp.regionE [0, 1, 2, 3, 4] (by simp [trim]; exact .mk _) ?_
        refine ExL.st Hz hP hnt rfl rfl (by decide) (by simp [go_sem]; exact .mk _ _) (by first | exact True.intro | exact und9 | exact und4 | (unfold r64; omega) | omega | (simp; omega)) ?_
        refine ExL.nil ?_
        refine Wp.ret ?_
        refine retQ.mk (by simp [go_sem]; exact .mk _ _) ?_
        simp [go_sem, Vsle, Vle, ACle, ACsle, eqT_mk, *]
      · intro hc3
        try simp at hc3
        refine Wp.skip ?_
        refine Wp.seq ?_
        refine Wp.seq ?_
        refine Wp.regionE [0, 1, 2, 3, 4] (by simp [trim]; exact .mk _) ?_
        refine ExL.st Hz hP hnt rfl rfl (by decide) (by simp [go_sem]; exact .mk _ _) (by first | exact True.intro | exact und9 | exact und4 | (unfold r64; omega) | omega | (simp; omega)) ?_
        refine ExL.st Hz hP hnt rfl rfl (by decide) (by simp [go_sem]; exact .mk _ _) (by first | exact True.intro | exact und9 | exact und4 | (unfold r64; omega) | omega | (simp; omega)) ?_
        refine ExL.st Hz hP hnt rfl rfl (by decide) (by simp [go_sem]; exact .mk _ _) (by first | exact True.intro | exact und9 | exact und4 | (unfold r64; omega) | omega | (simp; omega)) ?_
        refine ExL.st Hz hP hnt rfl rfl (by decide) (by simp [go_sem]; exact .mk _ _) (by first | exact True.intro | exact und9 | exact und4 | (unfold r64; omega) | omega | (simp; omega)) ?_
        refine ExL.call (h49) Try.func49 hP hnt rfl rfl rfl (by decide) (by kernel_rfl) rfl (by simp [go_sem]; exact .mk _ _) (by simp [go_sem, Vsle, Vle, ACsle, ACle, ACsle.refl]) (by simp [go_sem]) ?_
        refine ExL.st Hz hP hnt rfl rfl (by decide) (by simp [go_sem]; exact .mk _ _) (by first | exact True.intro | exact und9 | exact und4 | (unfold r64; omega) | omega | (simp; omega)) ?_
        refine ExL.nil ?_
        refine Wp.condE (by simp [go_sem]; exact .mk _ _ _) ?_ ?_
        · intro hc4
          try simp at hc4
          refine Wp.seq ?_
          refine Wp.regionE [0, 1, 2, 3, 4] (by simp [trim]; exact .mk _) ?_
          refine ExL.st Hz hP hnt rfl rfl (by decide) (by simp [go_sem]; exact .mk _ _) (by first | exact True.intro | exact und9 | exact und4 | (unfold r64; omega) | omega | (simp; omega)) ?_
          refine ExL.nil ?_
          refine Wp.ret ?_
          refine retQ.mk (by simp [go_sem]; exact .mk _ _) ?_
          simp [go_sem, Vsle, Vle, ACle, ACsle, eqT_mk, *]
        · intro hc4
          try simp at hc4
          refine Wp.skip ?_
          refine Wp.seq ?_
          refine Wp.regionE [0, 1, 2, 3, 4] (by simp [trim]; exact .mk _) ?_
          refine ExL.st Hz hP hnt rfl rfl (by decide) (by simp [go_sem]; exact .mk _ _) (by first | exact True.intro | exact und9 | exact und4 | (unfold r64; omega) | omega | (simp; omega)) ?_
          refine ExL.nil ?_
          refine Wp.ret ?_
          refine retQ.mk (by simp [go_sem]; exact .mk _ _) ?_
          simp [go_sem, Vsle, Vle, ACle, ACsle, eqT_mk, *]
theorem w49 (xs ys : List Tm) (hx : xs.length ≤ 281474976710656)
    (h18 : ∀ x ∈ xs, ∀ y ∈ ys, PC Try.prog 18 ([vT x, vT y].map .val) [vB (eqT x y)] []) :
    PC Try.prog 49 ([vTs xs, vTs ys].map .val) [vB (eqS xs ys)] [] := by
  refine PC_of Try.func49 rfl rfl Try.ntmps49 (by simp) fun E hP hnt hnp => ?_
  simp only [vTs, vI, List.map_cons, List.map_nil, dv_raw, dv_sl, dv_ptr, dv_fn, inMap, Nat.reduceAdd]
  refine Wp.seq ?_
  refine Wp.regionE [0, 1, 4, 5] (by simp [trim]; exact .mk _) ?_
  refine ExL.st Hz hP hnt rfl rfl (by decide) (by simp [go_sem]; exact .mk _ _) (by first | exact True.intro | exact und9 | exact und4 | (unfold r64; omega) | omega | (simp; omega)) ?_
  refine ExL.nil ?_
  refine Wp.seq ?_
  refine Wp.seq ?_
  refine Wp.regionE [0, 1, 4, 5] (by simp [trim]; exact .mk _) ?_
  refine ExL.st Hz hP hnt rfl rfl (by decide) (by simp [go_sem]; exact .mk _ _) (by first | exact True.intro | exact und9 | exact und4 | (unfold r64; omega) | omega | (simp; omega)) ?_
  refine ExL.st Hz hP hnt rfl rfl (by decide) (by simp [go_sem]; exact .mk _ _) (by first | exact True.intro | exact und9 | exact und4 | (unfold r64; omega) | omega | (simp; omega)) ?_
  refine ExL.st Hz hP hnt rfl rfl (by decide) (by simp [go_sem]; exact .mk _ _) (by first | exact True.intro | exact und9 | exact und4 | (unfold r64; omega) | omega | (simp; omega)) ?_
  refine ExL.st Hz hP hnt rfl rfl (by decide) (by simp [go_sem]; exact .mk _ _) (by first | exact True.intro | exact und9 | exact und4 | (unfold r64; omega) | omega | (simp; omega)) ?_
  refine ExL.st Hz hP hnt rfl rfl (by decide) (by simp [go_sem]; exact .mk _ _) (by first | exact True.intro | exact und9 | exact und4 | (unfold r64; omega) | omega | (simp; omega)) ?_
  refine ExL.nil ?_
  refine Wp.condE (by simp [go_sem]; exact .mk _ _ _) ?_ ?_
  · intro hc1
    try simp at hc1
    refine Wp.seq ?_
    refine Wp.regionE [0, 1, 4, 5] (by simp [trim]; exact .mk _) ?_
    refine ExL.st Hz hP hnt rfl rfl (by decide) (by simp [go_sem]; exact .mk _ _) (by first | exact True.intro | exact und9 | exact und4 | (unfold r64; omega) | omega | (simp; omega)) ?_
    refine ExL.nil ?_
    refine Wp.ret ?_
    refine retQ.mk (by simp [go_sem]; exact .mk _ _) ?_
    first | (have hne : ¬ xs.length = ys.length := (by omega); simp [go_sem, Vsle, Vle, ACle, eqS, hne]; done) | (simp [go_sem, Vsle, Vle, ACle, eqS, q2, eqL_drop xs ys i hc2 (by omega), hlen, hc3]; done) | (simp [go_sem, Vsle, Vle, ACle, eqS, q2, hlen]; rw [List.drop_eq_nil_of_le (by omega)]; simp [eqL])
  · intro hc1
    try simp at hc1
    refine Wp.skip ?_
    refine Wp.seq ?_
    refine Wp.seq ?_
    refine Wp.regionE [0, 1, 4, 5] (by simp [trim]; exact .mk _) ?_
    refine ExL.st Hz hP hnt rfl rfl (by decide) (by simp [go_sem]; exact .mk _ _) (by first | exact True.intro | exact und9 | exact und4 | (unfold r64; omega) | omega | (simp; omega)) ?_
    refine ExL.nil ?_
    refine Wp.block ?_
    refine Wp.loop (ι := { p : Nat // p ≤ xs.length ∧ eqL xs ys = eqL (xs.drop p) (ys.drop p) }) (fun p => [(0, .val (vTs xs)), (3, .val (vTs ys)), (15, .val (vI p.1))]) (fun p => xs.length - p.1) ⟨0, by simp, by simp⟩ (LeL.le (by simp [go_sem, LeL, AVle, Vle, ACsle, ACle])) ?_
    intro p
    obtain ⟨i, q1, q2⟩ := p
    show Wp _ _ _ [(0, .val (vTs xs)), (3, .val (vTs ys)), (15, .val (vI i))]
    have hlen : xs.length = ys.length := by omega
    have hlt : i < xs.length → i < ys.length := fun h => by omega
    refine Wp.seq ?_
    refine Wp.seq ?_
    refine Wp.regionE [0, 1, 4, 5] (by simp [trim]; exact .mk _) ?_
    refine ExL.st Hz hP hnt rfl rfl (by decide) (by simp [go_sem]; exact .mk _ _) (by first | exact True.intro | exact und9 | exact und4 | (unfold r64; omega) | omega | (simp; omega)) ?_
    refine ExL.st Hz hP hnt rfl rfl (by decide) (by simp [go_sem]; exact .mk _ _) (by first | exact True.intro | exact und9 | exact und4 | (unfold r64; omega) | omega | (simp; omega)) ?_
    refine ExL.st Hz hP hnt rfl rfl (by decide) (by simp [go_sem]; exact .mk _ _) (by first | exact True.intro | exact und9 | exact und4 | (unfold r64; omega) | omega | (simp; omega)) ?_
    refine ExL.st Hz hP hnt rfl rfl (by decide) (by simp [go_sem]; exact .mk _ _) (by first | exact True.intro | exact und9 | exact und4 | (unfold r64; omega) | omega | (simp; omega)) ?_
    refine ExL.nil ?_
    refine Wp.condE (by simp [go_sem]; exact .mk _ _ _) ?_ ?_
    · intro hc2
      try simp at hc2
      refine Wp.skip ?_
      refine Wp.seq ?_
      refine Wp.block ?_
      refine Wp.seq ?_
      refine Wp.drawE [0, 1, 4, 5] 8 (by rw [hP]; exact mixed) (by kernel_rfl) (by simp [trim]; exact .mk _) ?_
      refine ExS.st Hz hP hnt rfl rfl (by decide) (by simp [go_sem]; exact .mk _ _) (by first | exact True.intro | exact und9 | exact und4 | (unfold r64; omega) | omega | (simp; omega)) ?_
      refine ExS.st Hz hP hnt rfl rfl (by decide) (by simp [go_sem]; exact .mk _ _) (by first | exact True.intro | exact und9 | exact und4 | (unfold r64; omega) | omega | (simp; omega)) ?_
      refine ExS.st Hz hP hnt rfl rfl (by decide) (by simp [go_sem, hc2]; exact .mk _ _) (by first | exact True.intro | exact und9 | exact und4 | (unfold r64; omega) | omega | (simp; omega)) ?_
      refine ExS.st Hz hP hnt rfl rfl (by decide) (by simp [go_sem]; exact .mk _ _) (by first | exact True.intro | exact und9 | exact und4 | (unfold r64; omega) | omega | (simp; omega)) ?_
      refine ExS.st Hz hP hnt rfl rfl (by decide) (by simp [go_sem]; exact .mk _ _) (by first | exact True.intro | exact und9 | exact und4 | (unfold r64; omega) | omega | (simp; omega)) ?_
      refine ExS.st Hz hP hnt rfl rfl (by decide) (by simp [go_sem]; exact .mk _ _) (by first | exact True.intro | exact und9 | exact und4 | (unfold r64; omega) | omega | (simp; omega)) ?_
      refine ExS.st Hz hP hnt rfl rfl (by decide) (by simp [go_sem, hc2, hlt]; exact .mk _ _) (by first | exact True.intro | exact und9 | exact und4 | (unfold r64; omega) | omega | (simp; omega)) ?_
      refine ExS.st Hz hP hnt rfl rfl (by decide) (by simp [go_sem]; exact .mk _ _) (by first | exact True.intro | exact und9 | exact und4 | (unfold r64; omega) | omega | (simp; omega)) ?_
      refine ExS.nil ?_
      refine ExL.call (h18 xs[i] (by simp) (ys[i]'(by omega)) (by simp)) Try.func18 hP hnt rfl rfl rfl (by decide) (by kernel_rfl) rfl (by simp [go_sem]; exact .mk _ _) (by simp [go_sem, Vsle, Vle, ACsle, ACle, ACsle.refl]) (by simp [go_sem]) ?_
      refine ExL.st Hz hP hnt rfl rfl (by decide) (by simp [go_sem]; exact .mk _ _) (by first | exact True.intro | exact und9 | exact und4 | (unfold r64; omega) | omega | (simp; omega)) ?_
      refine ExL.nil ?_
      refine Wp.condE (by simp [go_sem]; exact .mk _ _ _) ?_ ?_
      · intro hc3
        try simp at hc3
        refine Wp.seq ?_
        refine Wp.regionE [0, 1, 4, 5] (by simp [trim]; exact .mk _) ?_
        refine ExL.st Hz hP hnt rfl rfl (by decide) (by simp [go_sem]; exact .mk _ _) (by first | exact True.intro | exact und9 | exact und4 | (unfold r64; omega) | omega | (simp; omega)) ?_
        refine ExL.nil ?_
        refine Wp.ret ?_
        refine retQ.mk (by simp [go_sem]; exact .mk _ _) ?_
        first | (have hne : ¬ xs.length = ys.length := (by omega); simp [go_sem, Vsle, Vle, ACle, eqS, hne]; done) | (simp [go_sem, Vsle, Vle, ACle, eqS, q2, eqL_drop xs ys i hc2 (by omega), hlen, hc3]; done) | (simp [go_sem, Vsle, Vle, ACle, eqS, q2, hlen]; rw [List.drop_eq_nil_of_le (by omega)]; simp [eqL])
      · intro hc3
        try simp at hc3
        refine Wp.skip ?_
        refine Wp.regionE [0, 1, 4, 5] (by simp [trim]; exact .mk _) ?_
        refine ExL.st Hz hP hnt rfl rfl (by decide) (by simp [go_sem]; exact .mk _ _) (by first | exact True.intro | exact und9 | exact und4 | (unfold r64; omega) | omega | (simp; omega)) ?_
        refine ExL.st Hz hP hnt rfl rfl (by decide) (by simp [go_sem]; exact .mk _ _) (by first | exact True.intro | exact und9 | exact und4 | (unfold r64; omega) | omega | (simp; omega)) ?_
        refine ExL.st Hz hP hnt rfl rfl (by decide) (by simp [go_sem]; exact .mk _ _) (by first | exact True.intro | exact und9 | exact und4 | (unfold r64; omega) | omega | (simp; omega)) ?_
        refine ExL.nil ?_
        exact ⟨⟨i + 1, hc2, by rw [q2, eqL_drop xs ys i hc2 (by omega), hc3, Bool.true_and]⟩, LeL.le (by simp [go_sem, LeL, AVle, Vle, ACsle, ACle]), by show xs.length - (i + 1) < xs.length - i; omega⟩
    · intro hc2
      try simp at hc2
      refine Wp.exit ?_
      refine Wp.seq ?_
      refine Wp.regionE [0, 1, 4, 5] (by simp [trim]; exact .mk _) ?_
      refine ExL.st Hz hP hnt rfl rfl (by decide) (by simp [go_sem]; exact .mk _ _) (by first | exact True.intro | exact und9 | exact und4 | (unfold r64; omega) | omega | (simp; omega)) ?_
      refine ExL.nil ?_
      refine Wp.ret ?_
      refine retQ.mk (by simp [go_sem]; exact .mk _ _) ?_
      first | (have hne : ¬ xs.length = ys.length := (by omega); simp [go_sem, Vsle, Vle, ACle, eqS, hne]; done) | (simp [go_sem, Vsle, Vle, ACle, eqS, q2, eqL_drop xs ys i hc2 (by omega), hlen, hc3]; done) | (simp [go_sem, Vsle, Vle, ACle, eqS, q2, hlen]; rw [List.drop_eq_nil_of_le (by omega)]; simp [eqL])
theorem w15 (a : ByteArray) (k n : Int) (s : ByteArray) (xs : List Tm) (hx : xs.length ≤ 281474976710656)
    (h15 : ∀ x ∈ xs, PC Try.prog 15 ([vT x, vS a].map .val) [vB (hasOp a x)] []) :
    PC Try.prog 15 ([vT (.mk k n s xs), vS a].map .val) [vB (hasOp a (.mk k n s xs))] [] := by
  refine PC_of Try.func15 rfl rfl Try.ntmps15 (by simp) fun E hP hnt hnp => ?_
  simp only [vT, Tm.ds_mk, vS, List.map_cons, List.map_nil, dv_raw, dv_sl, dv_ptr, dv_fn, inMap, Nat.reduceAdd]
  refine Wp.seq ?_
  refine Wp.regionE [0, 1, 2, 4, 5] (by simp [trim]; exact .mk _) ?_
  refine ExL.ef Hz hP hnt hnp rfl (by decide) (by simp [go_sem]; exact .mk _ _) trivial ?_
  refine ExL.st Hz hP hnt rfl rfl (by decide) (by simp [go_sem]; exact .mk _ _) (by first | exact True.intro | exact und9 | exact und4 | (unfold r64; omega) | omega | (simp; omega)) ?_
  refine ExL.nil ?_
  refine Wp.seq ?_
  refine Wp.seq ?_
  refine Wp.regionE [0, 1, 2, 4, 5] (by simp [trim]; exact .mk _) ?_
  refine ExL.st Hz hP hnt rfl rfl (by decide) (by simp [go_sem]; exact .mk _ _) (by first | exact True.intro | exact und9 | exact und4 | (unfold r64; omega) | omega | (simp; omega)) ?_
  refine ExL.nil ?_
  refine Wp.block ?_
  refine Wp.loop (ι := { p : Nat // p ≤ xs.length ∧ hasOpL a xs = hasOpL a (xs.drop p) }) (fun p => [(3, .val (vS a)), (7, .val (vT (.mk k n s xs))), (6, .val (.one (.bp 2 0))), (15, .val (vI p.1))]) (fun p => xs.length - p.1) ⟨0, by simp, by simp⟩ (LeL.le (by simp [go_sem, LeL, AVle, Vle, ACsle, ACle, Tm.ds_mk])) ?_
  intro p
  obtain ⟨i, q1, q2⟩ := p
  show Wp _ _ _ [(3, .val (vS a)), (7, .val (vT (.mk k n s xs))), (6, .val (.one (.bp 2 0))), (15, .val (vI i))]
  simp only [vT, Tm.ds_mk, List.map_cons, List.map_nil, dv_raw, dv_sl]
  refine Wp.seq ?_
  refine Wp.seq ?_
  refine Wp.regionE [0, 1, 2, 4, 5] (by simp [trim]; exact .mk _) ?_
  refine ExL.st Hz hP hnt rfl rfl (by decide) (by simp [go_sem]; exact .mk _ _) (by first | exact True.intro | exact und9 | exact und4 | (unfold r64; omega) | omega | (simp; omega)) ?_
  refine ExL.st Hz hP hnt rfl rfl (by decide) (by simp [go_sem]; exact .mk _ _) (by first | exact True.intro | exact und9 | exact und4 | (unfold r64; omega) | omega | (simp; omega)) ?_
  refine ExL.st Hz hP hnt rfl rfl (by decide) (by simp [go_sem]; exact .mk _ _) (by first | exact True.intro | exact und9 | exact und4 | (unfold r64; omega) | omega | (simp; omega)) ?_
  refine ExL.st Hz hP hnt rfl rfl (by decide) (by simp [go_sem]; exact .mk _ _) (by first | exact True.intro | exact und9 | exact und4 | (unfold r64; omega) | omega | (simp; omega)) ?_
  refine ExL.st Hz hP hnt rfl rfl (by decide) (by simp [go_sem]; exact .mk _ _) (by first | exact True.intro | exact und9 | exact und4 | (unfold r64; omega) | omega | (simp; omega)) ?_
  refine ExL.nil ?_
  refine Wp.condE (by simp [go_sem]; exact .mk _ _ _) ?_ ?_
  · intro hc1
    try simp at hc1
    refine Wp.skip ?_
    refine Wp.seq ?_
    refine Wp.block ?_
    refine Wp.seq ?_
    refine Wp.regionE [0, 1, 2, 4, 5] (by simp [trim]; exact .mk _) ?_
    refine ExL.st Hz hP hnt rfl rfl (by decide) (by simp [go_sem]; exact .mk _ _) (by first | exact True.intro | exact und9 | exact und4 | (unfold r64; omega) | omega | (simp; omega)) ?_
    refine ExL.st Hz hP hnt rfl rfl (by decide) (by simp [go_sem]; exact .mk _ _) (by first | exact True.intro | exact und9 | exact und4 | (unfold r64; omega) | omega | (simp; omega)) ?_
    refine ExL.st Hz hP hnt rfl rfl (by decide) (by simp [go_sem]; exact .mk _ _) (by first | exact True.intro | exact und9 | exact und4 | (unfold r64; omega) | omega | (simp; omega)) ?_
    refine ExL.st Hz hP hnt rfl rfl (by decide) (by simp [go_sem, hc1]; exact .mk _ _) (by first | exact True.intro | exact und9 | exact und4 | (unfold r64; omega) | omega | (simp; omega)) ?_
    refine ExL.st Hz hP hnt rfl rfl (by decide) (by simp [go_sem]; exact .mk _ _) (by first | exact True.intro | exact und9 | exact und4 | (unfold r64; omega) | omega | (simp; omega)) ?_
    refine ExL.st Hz hP hnt rfl rfl (by decide) (by simp [go_sem]; exact .mk _ _) (by first | exact True.intro | exact und9 | exact und4 | (unfold r64; omega) | omega | (simp; omega)) ?_
    refine ExL.call (h15 xs[i] (by simp)) Try.func15 hP hnt rfl rfl rfl (by decide) (by kernel_rfl) rfl (by simp [go_sem]; exact .mk _ _) (by simp [go_sem, Vsle, Vle, ACsle, ACle, ACsle.refl]) (by simp [go_sem]) ?_
    refine ExL.nil ?_
    refine Wp.condE (by simp [go_sem]; exact .mk _ _ _) ?_ ?_
    · intro hc2
      try simp at hc2
      refine Wp.seq ?_
      refine Wp.regionE [0, 1, 2, 4, 5] (by simp [trim]; exact .mk _) ?_
      refine ExL.st Hz hP hnt rfl rfl (by decide) (by simp [go_sem]; exact .mk _ _) (by first | exact True.intro | exact und9 | exact und4 | (unfold r64; omega) | omega | (simp; omega)) ?_
      refine ExL.nil ?_
      refine Wp.ret ?_
      refine retQ.mk (by simp [go_sem]; exact .mk _ _) ?_
      first | (simp [go_sem, Vsle, Vle, ACle, hasOp_mk, q2, hasOpL_drop a xs i hc1, hc2]; done) | (simp [go_sem, Vsle, Vle, ACle, hasOp_mk, q2, List.drop_eq_nil_of_le (show xs.length ≤ i by omega), hasOpL, *]; done)
    · intro hc2
      try simp at hc2
      refine Wp.skip ?_
      refine Wp.regionE [0, 1, 2, 4, 5] (by simp [trim]; exact .mk _) ?_
      refine ExL.st Hz hP hnt rfl rfl (by decide) (by simp [go_sem]; exact .mk _ _) (by first | exact True.intro | exact und9 | exact und4 | (unfold r64; omega) | omega | (simp; omega)) ?_
      refine ExL.st Hz hP hnt rfl rfl (by decide) (by simp [go_sem]; exact .mk _ _) (by first | exact True.intro | exact und9 | exact und4 | (unfold r64; omega) | omega | (simp; omega)) ?_
      refine ExL.st Hz hP hnt rfl rfl (by decide) (by simp [go_sem]; exact .mk _ _) (by first | exact True.intro | exact und9 | exact und4 | (unfold r64; omega) | omega | (simp; omega)) ?_
      refine ExL.nil ?_
      exact ⟨⟨i + 1, hc1, by rw [q2, hasOpL_drop a xs i hc1, hc2, Bool.false_or]⟩, LeL.le (by simp [go_sem, LeL, AVle, Vle, ACsle, ACle, Tm.ds_mk]), by show xs.length - (i + 1) < xs.length - i; omega⟩
  · intro hc1
    try simp at hc1
    refine Wp.exit ?_
    refine Wp.seq ?_
    refine Wp.regionE [0, 1, 2, 4, 5] (by simp [trim]; exact .mk _) ?_
    refine ExL.st Hz hP hnt rfl rfl (by decide) (by simp [go_sem]; exact .mk _ _) (by first | exact True.intro | exact und9 | exact und4 | (unfold r64; omega) | omega | (simp; omega)) ?_
    refine ExL.st Hz hP hnt rfl rfl (by decide) (by simp [go_sem]; exact .mk _ _) (by first | exact True.intro | exact und9 | exact und4 | (unfold r64; omega) | omega | (simp; omega)) ?_
    refine ExL.st Hz hP hnt rfl rfl (by decide) (by simp [go_sem]; exact .mk _ _) (by first | exact True.intro | exact und9 | exact und4 | (unfold r64; omega) | omega | (simp; omega)) ?_
    refine ExL.st Hz hP hnt rfl rfl (by decide) (by simp [go_sem]; exact .mk _ _) (by first | exact True.intro | exact und9 | exact und4 | (unfold r64; omega) | omega | (simp; omega)) ?_
    refine ExL.splitE 23 (by simp [look]; exact .mk _ _ _) (by simp [put]; exact .mk _) (by simp [put]; exact .mk _) ?_ ?_
    · intro hg3
      try simp at hg3
      refine ExL.stOnE Hz hP hnt rfl rfl (by decide) rfl (by decide) (by simp [look]; exact .mk _ _ _) rfl (by simp [go_sem]; exact .mk _ _) (by first | exact True.intro | exact und9 | exact und4 | (unfold r64; omega) | omega | (simp; omega)) ?_
      refine ExL.stOnE Hz hP hnt rfl rfl (by decide) rfl (by decide) (by simp [look]; exact .mk _ _ _) rfl (by simp [go_sem]; exact .mk _ _) (by first | exact True.intro | exact und9 | exact und4 | (unfold r64; omega) | omega | (simp; omega)) ?_
      refine ExL.stOnE Hz hP hnt rfl rfl (by decide) rfl (by decide) (by simp [look]; exact .mk _ _ _) rfl (by simp [go_sem]; exact .mk _ _) (by first | exact True.intro | exact und9 | exact und4 | (unfold r64; omega) | omega | (simp; omega)) ?_
      refine ExL.stOnE Hz hP hnt rfl rfl (by decide) rfl (by decide) (by simp [look]; exact .mk _ _ _) rfl (by simp [go_sem]; exact .mk _ _) (by first | exact True.intro | exact und9 | exact und4 | (unfold r64; omega) | omega | (simp; omega)) ?_
      refine ExL.st Hz hP hnt rfl rfl (by decide) (by simp [go_sem]; exact .mk _ _) (by first | exact True.intro | exact und9 | exact und4 | (unfold r64; omega) | omega | (simp; omega)) ?_
      refine ExL.st Hz hP hnt rfl rfl (by decide) (by simp [go_sem]; exact .mk _ _) (by first | exact True.intro | exact und9 | exact und4 | (unfold r64; omega) | omega | (simp; omega)) ?_
      refine ExL.nil ?_
      refine Wp.ret ?_
      refine retQ.mk (by simp [go_sem]; exact .mk _ _) ?_
      first | (simp [go_sem, Vsle, Vle, ACle, hasOp_mk, q2, hasOpL_drop a xs i hc1, hc2]; done) | (simp [go_sem, Vsle, Vle, ACle, hasOp_mk, q2, List.drop_eq_nil_of_le (show xs.length ≤ i by omega), hasOpL, *]; done)
    · intro hg3
      try simp at hg3
      refine ExL.offE hnt rfl rfl (by decide) (by simp [look]; exact .mk _ _ _) rfl rfl (by decide) (by simp [put]; exact .mk _) ?_
      refine ExL.offE hnt rfl rfl (by decide) (by simp [look]; exact .mk _ _ _) rfl rfl (by decide) (by simp [put]; exact .mk _) ?_
      refine ExL.offE hnt rfl rfl (by decide) (by simp [look]; exact .mk _ _ _) rfl rfl (by decide) (by simp [put]; exact .mk _) ?_
      refine ExL.offE hnt rfl rfl (by decide) (by simp [look]; exact .mk _ _ _) rfl rfl (by decide) (by simp [put]; exact .mk _) ?_
      refine ExL.st Hz hP hnt rfl rfl (by decide) (by simp [go_sem]; exact .mk _ _) (by first | exact True.intro | exact und9 | exact und4 | (unfold r64; omega) | omega | (simp; omega)) ?_
      refine ExL.st Hz hP hnt rfl rfl (by decide) (by simp [go_sem]; exact .mk _ _) (by first | exact True.intro | exact und9 | exact und4 | (unfold r64; omega) | omega | (simp; omega)) ?_
      refine ExL.nil ?_
      refine Wp.ret ?_
      refine retQ.mk (by simp [go_sem]; exact .mk _ _) ?_
      first | (simp [go_sem, Vsle, Vle, ACle, hasOp_mk, q2, hasOpL_drop a xs i hc1, hc2]; done) | (simp [go_sem, Vsle, Vle, ACle, hasOp_mk, q2, List.drop_eq_nil_of_le (show xs.length ≤ i by omega), hasOpL, *]; done)
end Go.RF.S
