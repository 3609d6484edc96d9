/- The functions of this seat, walked in that logic. -/
import Derived.Test.YtmahppdampmpfaaT13
set_option linter.unusedVariables false
set_option linter.unusedSimpArgs false
namespace Go.RF.S
open Go Go.Proofs Go.RF
theorem w52 (k n : Int) (s : ByteArray) (xs : List Tm) (k' n' : Int) (s' : ByteArray) (ys : List Tm) (hx : xs.length ≤ 281474976710656)
    (h52 : ∀ x ∈ xs, ∀ y ∈ ys, PC Try.prog 52 ([vT x, vT y].map .val) [vB (eqT x y)] []) :
    PC Try.prog 52 ([vT (.mk k n s xs), vT (.mk k' n' s' ys)].map .val) [vB (eqT (.mk k n s xs) (.mk k' n' s' ys))] [] := by
  refine PC_of Try.func52 rfl rfl Try.ntmps52 (by simp) fun E hP hnt hnp => ?_
  simp only [vT, Tm.ds_mk, List.map_cons, List.map_nil, dv_raw, dv_sl, dv_ptr, dv_fn, inMap, Nat.reduceAdd]
  refine Wp.seq ?_
  refine Wp.regionE [0, 1, 2, 3, 4, 5] (by simp [trim]; exact .mk _) ?_
  refine ExL.ef Hz hP hnt hnp rfl (by decide) (by simp [go_sem]; exact .mk _ _) trivial ?_
  refine ExL.ef Hz hP hnt hnp rfl (by decide) (by simp [go_sem]; exact .mk _ _) trivial ?_
  refine ExL.st Hz hP hnt rfl rfl (by decide) (by simp [go_sem]; exact .mk _ _) (by first | exact True.intro | exact und9 | exact und4 | (unfold r64; omega) | omega | (simp; omega)) ?_
  refine ExL.nil ?_
  refine Wp.seq ?_
  refine Wp.seq ?_
  refine Wp.regionE [0, 1, 2, 3, 4, 5] (by simp [trim]; exact .mk _) ?_
  refine ExL.st Hz hP hnt rfl rfl (by decide) (by simp [go_sem]; exact .mk _ _) (by first | exact True.intro | exact und9 | exact und4 | (unfold r64; omega) | omega | (simp; omega)) ?_
  refine ExL.st Hz hP hnt rfl rfl (by decide) (by simp [go_sem]; exact .mk _ _) (by first | exact True.intro | exact und9 | exact und4 | (unfold r64; omega) | omega | (simp; omega)) ?_
  refine ExL.st Hz hP hnt rfl rfl (by decide) (by simp [go_sem]; exact .mk _ _) (by first | exact True.intro | exact und9 | exact und4 | (unfold r64; omega) | omega | (simp; omega)) ?_
  refine ExL.st Hz hP hnt rfl rfl (by decide) (by simp [go_sem]; exact .mk _ _) (by first | exact True.intro | exact und9 | exact und4 | (unfold r64; omega) | omega | (simp; omega)) ?_
  refine ExL.st Hz hP hnt rfl rfl (by decide) (by simp [go_sem]; exact .mk _ _) (by first | exact True.intro | exact und9 | exact und4 | (unfold r64; omega) | omega | (simp; omega)) ?_
  refine ExL.st Hz hP hnt rfl rfl (by decide) (by simp [go_sem]; exact .mk _ _) (by first | exact True.intro | exact und9 | exact und4 | (unfold r64; omega) | omega | (simp; omega)) ?_
  refine ExL.splitE 11 (by simp [look]; exact .mk _ _ _) (by simp [put]; exact .mk _) (by simp [put]; exact .mk _) ?_ ?_
  · intro hg1
    try simp at hg1
    refine ExL.offE hnt rfl rfl (by decide) (by simp [look]; exact .mk _ _ _) rfl rfl (by decide) (by simp [put]; exact .mk _) ?_
    refine ExL.offE hnt rfl rfl (by decide) (by simp [look]; exact .mk _ _ _) rfl rfl (by decide) (by simp [put]; exact .mk _) ?_
    refine ExL.offE hnt rfl rfl (by decide) (by simp [look]; exact .mk _ _ _) rfl rfl (by decide) (by simp [put]; exact .mk _) ?_
    refine ExL.offE hnt rfl rfl (by decide) (by simp [look]; exact .mk _ _ _) rfl rfl (by decide) (by simp [put]; exact .mk _) ?_
    refine ExL.offE hnt rfl rfl (by decide) (by simp [look]; exact .mk _ _ _) rfl rfl (by decide) (by simp [put]; exact .mk _) ?_
    refine ExL.st Hz hP hnt rfl rfl (by decide) (by simp [go_sem]; exact .mk _ _) (by first | exact True.intro | exact und9 | exact und4 | (unfold r64; omega) | omega | (simp; omega)) ?_
    refine ExL.st Hz hP hnt rfl rfl (by decide) (by simp [go_sem]; exact .mk _ _) (by first | exact True.intro | exact und9 | exact und4 | (unfold r64; omega) | omega | (simp; omega)) ?_
    refine ExL.offE hnt rfl rfl (by decide) (by simp [look]; exact .mk _ _ _) rfl rfl (by decide) (by simp [put]; exact .mk _) ?_
    refine ExL.offE hnt rfl rfl (by decide) (by simp [look]; exact .mk _ _ _) rfl rfl (by decide) (by simp [put]; exact .mk _) ?_
    refine ExL.offE hnt rfl rfl (by decide) (by simp [look]; exact .mk _ _ _) rfl rfl (by decide) (by simp [put]; exact .mk _) ?_
    refine ExL.offE hnt rfl rfl (by decide) (by simp [look]; exact .mk _ _ _) rfl rfl (by decide) (by simp [put]; exact .mk _) ?_
    refine ExL.offE hnt rfl rfl (by decide) (by simp [look]; exact .mk _ _ _) rfl rfl (by decide) (by simp [put]; exact .mk _) ?_
    refine ExL.st Hz hP hnt rfl rfl (by decide) (by simp [go_sem]; exact .mk _ _) (by first | exact True.intro | exact und9 | exact und4 | (unfold r64; omega) | omega | (simp; omega)) ?_
    refine ExL.st Hz hP hnt rfl rfl (by decide) (by simp [go_sem]; exact .mk _ _) (by first | exact True.intro | exact und9 | exact und4 | (unfold r64; omega) | omega | (simp; omega)) ?_
    refine ExL.offE hnt rfl rfl (by decide) (by simp [look]; exact .mk _ _ _) rfl rfl (by decide) (by simp [put]; exact .mk _) ?_
    refine ExL.offE hnt rfl rfl (by decide) (by simp [look]; exact .mk _ _ _) rfl rfl (by decide) (by simp [put]; exact .mk _) ?_
    refine ExL.offE hnt rfl rfl (by decide) (by simp [look]; exact .mk _ _ _) rfl rfl (by decide) (by simp [put]; exact .mk _) ?_
    refine ExL.offE hnt rfl rfl (by decide) (by simp [look]; exact .mk _ _ _) rfl rfl (by decide) (by simp [put]; exact .mk _) ?_
    refine ExL.offE hnt rfl rfl (by decide) (by simp [look]; exact .mk _ _ _) rfl rfl (by decide) (by simp [put]; exact .mk _) ?_
    refine ExL.offE hnt rfl rfl (by decide) (by simp [look]; exact .mk _ _ _) rfl rfl (by decide) (by simp [put]; exact .mk _) ?_
    refine ExL.offE hnt rfl rfl (by decide) (by simp [look]; exact .mk _ _ _) rfl rfl (by decide) (by simp [put]; exact .mk _) ?_
    refine ExL.st Hz hP hnt rfl rfl (by decide) (by simp [go_sem]; exact .mk _ _) (by first | exact True.intro | exact und9 | exact und4 | (unfold r64; omega) | omega | (simp; omega)) ?_
    refine ExL.nil ?_
    refine Wp.condE (by simp [go_sem]; exact .mk _ _ _) ?_ ?_
    · intro hc2
      try simp at hc2
      refine Wp.seq ?_
      refine Wp.regionE [0, 1, 2, 3, 4, 5] (by simp [trim]; exact .mk _) ?_
      refine ExL.st Hz hP hnt rfl rfl (by decide) (by simp [go_sem]; exact .mk _ _) (by first | exact True.intro | exact und9 | exact und4 | (unfold r64; omega) | omega | (simp; omega)) ?_
      refine ExL.nil ?_
      refine Wp.ret ?_
      refine retQ.mk (by simp [go_sem]; exact .mk _ _) ?_
      first | (simp [go_sem, Vsle, Vle, ACle, ACsle, eqT_mk, eqS, *]; done) | (simp [go_sem, Vsle, Vle, ACle, ACsle, eqT_mk, eqS]; omega) | (simp [go_sem, Vsle, Vle, ACle, ACsle, eqT_mk, eqS, hg1, hg3, hg5, hlen, q2, eqL_drop xs ys i hc8 (by omega), hc9]; done) | (simp [go_sem, Vsle, Vle, ACle, eqT_mk, eqS, hg1, hg3, hg5, q2, hlen, List.drop_eq_nil_of_le (show xs.length ≤ i by omega), eqL]; done) | skip
    · intro hc2
      simp at hc2
  · intro hg1
    try simp at hg1
    refine ExL.stOnE Hz hP hnt rfl rfl (by decide) rfl (by decide) (by simp [look]; exact .mk _ _ _) rfl (by simp [go_sem]; exact .mk _ _) (by first | exact True.intro | exact und9 | exact und4 | (unfold r64; omega) | omega | (simp; omega)) ?_
    refine ExL.stOnE Hz hP hnt rfl rfl (by decide) rfl (by decide) (by simp [look]; exact .mk _ _ _) rfl (by simp [go_sem]; exact .mk _ _) (by first | exact True.intro | exact und9 | exact und4 | (unfold r64; omega) | omega | (simp; omega)) ?_
    refine ExL.stOnE Hz hP hnt rfl rfl (by decide) rfl (by decide) (by simp [look]; exact .mk _ _ _) rfl (by simp [go_sem]; exact .mk _ _) (by first | exact True.intro | exact und9 | exact und4 | (unfold r64; omega) | omega | (simp; omega)) ?_
    refine ExL.stOnE Hz hP hnt rfl rfl (by decide) rfl (by decide) (by simp [look]; exact .mk _ _ _) rfl (by simp [go_sem]; exact .mk _ _) (by first | exact True.intro | exact und9 | exact und4 | (unfold r64; omega) | omega | (simp; omega)) ?_
    refine ExL.stOnE Hz hP hnt rfl rfl (by decide) rfl (by decide) (by simp [look]; exact .mk _ _ _) rfl (by simp [go_sem]; exact .mk _ _) (by first | exact True.intro | exact und9 | exact und4 | (unfold r64; omega) | omega | (simp; omega)) ?_
    refine ExL.st Hz hP hnt rfl rfl (by decide) (by simp [go_sem]; exact .mk _ _) (by first | exact True.intro | exact und9 | exact und4 | (unfold r64; omega) | omega | (simp; omega)) ?_
    refine ExL.st Hz hP hnt rfl rfl (by decide) (by simp [go_sem]; exact .mk _ _) (by first | exact True.intro | exact und9 | exact und4 | (unfold r64; omega) | omega | (simp; omega)) ?_
    refine ExL.splitE 18 (by simp [look]; exact .mk _ _ _) (by simp [put]; exact .mk _) (by simp [put]; exact .mk _) ?_ ?_
    · intro hg3
      try simp at hg3
      refine ExL.offE hnt rfl rfl (by decide) (by simp [look]; exact .mk _ _ _) rfl rfl (by decide) (by simp [put]; exact .mk _) ?_
      refine ExL.offE hnt rfl rfl (by decide) (by simp [look]; exact .mk _ _ _) rfl rfl (by decide) (by simp [put]; exact .mk _) ?_
      refine ExL.offE hnt rfl rfl (by decide) (by simp [look]; exact .mk _ _ _) rfl rfl (by decide) (by simp [put]; exact .mk _) ?_
      refine ExL.offE hnt rfl rfl (by decide) (by simp [look]; exact .mk _ _ _) rfl rfl (by decide) (by simp [put]; exact .mk _) ?_
      refine ExL.offE hnt rfl rfl (by decide) (by simp [look]; exact .mk _ _ _) rfl rfl (by decide) (by simp [put]; exact .mk _) ?_
      refine ExL.st Hz hP hnt rfl rfl (by decide) (by simp [go_sem]; exact .mk _ _) (by first | exact True.intro | exact und9 | exact und4 | (unfold r64; omega) | omega | (simp; omega)) ?_
      refine ExL.st Hz hP hnt rfl rfl (by decide) (by simp [go_sem]; exact .mk _ _) (by first | exact True.intro | exact und9 | exact und4 | (unfold r64; omega) | omega | (simp; omega)) ?_
      refine ExL.offE hnt rfl rfl (by decide) (by simp [look]; exact .mk _ _ _) rfl rfl (by decide) (by simp [put]; exact .mk _) ?_
      refine ExL.offE hnt rfl rfl (by decide) (by simp [look]; exact .mk _ _ _) rfl rfl (by decide) (by simp [put]; exact .mk _) ?_
      refine ExL.offE hnt rfl rfl (by decide) (by simp [look]; exact .mk _ _ _) rfl rfl (by decide) (by simp [put]; exact .mk _) ?_
      refine ExL.offE hnt rfl rfl (by decide) (by simp [look]; exact .mk _ _ _) rfl rfl (by decide) (by simp [put]; exact .mk _) ?_
      refine ExL.offE hnt rfl rfl (by decide) (by simp [look]; exact .mk _ _ _) rfl rfl (by decide) (by simp [put]; exact .mk _) ?_
      refine ExL.offE hnt rfl rfl (by decide) (by simp [look]; exact .mk _ _ _) rfl rfl (by decide) (by simp [put]; exact .mk _) ?_
      refine ExL.offE hnt rfl rfl (by decide) (by simp [look]; exact .mk _ _ _) rfl rfl (by decide) (by simp [put]; exact .mk _) ?_
      refine ExL.st Hz hP hnt rfl rfl (by decide) (by simp [go_sem]; exact .mk _ _) (by first | exact True.intro | exact und9 | exact und4 | (unfold r64; omega) | omega | (simp; omega)) ?_
      refine ExL.nil ?_
      refine Wp.condE (by simp [go_sem]; exact .mk _ _ _) ?_ ?_
      · intro hc4
        try simp at hc4
        refine Wp.seq ?_
        refine Wp.regionE [0, 1, 2, 3, 4, 5] (by simp [trim]; exact .mk _) ?_
        refine ExL.st Hz hP hnt rfl rfl (by decide) (by simp [go_sem]; exact .mk _ _) (by first | exact True.intro | exact und9 | exact und4 | (unfold r64; omega) | omega | (simp; omega)) ?_
        refine ExL.nil ?_
        refine Wp.ret ?_
        refine retQ.mk (by simp [go_sem]; exact .mk _ _) ?_
        first | (simp [go_sem, Vsle, Vle, ACle, ACsle, eqT_mk, eqS, *]; done) | (simp [go_sem, Vsle, Vle, ACle, ACsle, eqT_mk, eqS]; omega) | (simp [go_sem, Vsle, Vle, ACle, ACsle, eqT_mk, eqS, hg1, hg3, hg5, hlen, q2, eqL_drop xs ys i hc8 (by omega), hc9]; done) | (simp [go_sem, Vsle, Vle, ACle, eqT_mk, eqS, hg1, hg3, hg5, q2, hlen, List.drop_eq_nil_of_le (show xs.length ≤ i by omega), eqL]; done) | skip
      · intro hc4
        simp at hc4
    · intro hg3
      try simp at hg3
      refine ExL.stOnE Hz hP hnt rfl rfl (by decide) rfl (by decide) (by simp [look]; exact .mk _ _ _) rfl (by simp [go_sem]; exact .mk _ _) (by first | exact True.intro | exact und9 | exact und4 | (unfold r64; omega) | omega | (simp; omega)) ?_
      refine ExL.stOnE Hz hP hnt rfl rfl (by decide) rfl (by decide) (by simp [look]; exact .mk _ _ _) rfl (by simp [go_sem]; exact .mk _ _) (by first | exact True.intro | exact und9 | exact und4 | (unfold r64; omega) | omega | (simp; omega)) ?_
      refine ExL.stOnE Hz hP hnt rfl rfl (by decide) rfl (by decide) (by simp [look]; exact .mk _ _ _) rfl (by simp [go_sem]; exact .mk _ _) (by first | exact True.intro | exact und9 | exact und4 | (unfold r64; omega) | omega | (simp; omega)) ?_
      refine ExL.stOnE Hz hP hnt rfl rfl (by decide) rfl (by decide) (by simp [look]; exact .mk _ _ _) rfl (by simp [go_sem]; exact .mk _ _) (by first | exact True.intro | exact und9 | exact und4 | (unfold r64; omega) | omega | (simp; omega)) ?_
      refine ExL.stOnE Hz hP hnt rfl rfl (by decide) rfl (by decide) (by simp [look]; exact .mk _ _ _) rfl (by simp [go_sem]; exact .mk _ _) (by first | exact True.intro | exact und9 | exact und4 | (unfold r64; omega) | omega | (simp; omega)) ?_
      refine ExL.st Hz hP hnt rfl rfl (by decide) (by simp [go_sem]; exact .mk _ _) (by first | exact True.intro | exact und9 | exact und4 | (unfold r64; omega) | omega | (simp; omega)) ?_
      refine ExL.st Hz hP hnt rfl rfl (by decide) (by simp [go_sem]; exact .mk _ _) (by first | exact True.intro | exact und9 | exact und4 | (unfold r64; omega) | omega | (simp; omega)) ?_
      refine ExL.splitE 25 (by simp [look]; exact .mk _ _ _) (by simp [put]; exact .mk _) (by simp [put]; exact .mk _) ?_ ?_
      · intro hg5
        try simp at hg5
        refine ExL.offE hnt rfl rfl (by decide) (by simp [look]; exact .mk _ _ _) rfl rfl (by decide) (by simp [put]; exact .mk _) ?_
        refine ExL.offE hnt rfl rfl (by decide) (by simp [look]; exact .mk _ _ _) rfl rfl (by decide) (by simp [put]; exact .mk _) ?_
        refine ExL.offE hnt rfl rfl (by decide) (by simp [look]; exact .mk _ _ _) rfl rfl (by decide) (by simp [put]; exact .mk _) ?_
        refine ExL.offE hnt rfl rfl (by decide) (by simp [look]; exact .mk _ _ _) rfl rfl (by decide) (by simp [put]; exact .mk _) ?_
        refine ExL.offE hnt rfl rfl (by decide) (by simp [look]; exact .mk _ _ _) rfl rfl (by decide) (by simp [put]; exact .mk _) ?_
        refine ExL.offE hnt rfl rfl (by decide) (by simp [look]; exact .mk _ _ _) rfl rfl (by decide) (by simp [put]; exact .mk _) ?_
        refine ExL.offE hnt rfl rfl (by decide) (by simp [look]; exact .mk _ _ _) rfl rfl (by decide) (by simp [put]; exact .mk _) ?_
        refine ExL.st Hz hP hnt rfl rfl (by decide) (by simp [go_sem]; exact .mk _ _) (by first | exact True.intro | exact und9 | exact und4 | (unfold r64; omega) | omega | (simp; omega)) ?_
        refine ExL.nil ?_
        refine Wp.condE (by simp [go_sem]; exact .mk _ _ _) ?_ ?_
        · intro hc6
          try simp at hc6
          refine Wp.seq ?_
          refine Wp.regionE [0, 1, 2, 3, 4, 5] (by simp [trim]; exact .mk _) ?_
          refine ExL.st Hz hP hnt rfl rfl (by decide) (by simp [go_sem]; exact .mk _ _) (by first | exact True.intro | exact und9 | exact und4 | (unfold r64; omega) | omega | (simp; omega)) ?_
          refine ExL.nil ?_
          refine Wp.ret ?_
          refine retQ.mk (by simp [go_sem]; exact .mk _ _) ?_
          first | (simp [go_sem, Vsle, Vle, ACle, ACsle, eqT_mk, eqS, *]; done) | (simp [go_sem, Vsle, Vle, ACle, ACsle, eqT_mk, eqS]; omega) | (simp [go_sem, Vsle, Vle, ACle, ACsle, eqT_mk, eqS, hg1, hg3, hg5, hlen, q2, eqL_drop xs ys i hc8 (by omega), hc9]; done) | (simp [go_sem, Vsle, Vle, ACle, eqT_mk, eqS, hg1, hg3, hg5, q2, hlen, List.drop_eq_nil_of_le (show xs.length ≤ i by omega), eqL]; done) | skip
        · intro hc6
          simp at hc6
      · intro hg5
        try simp at hg5
        refine ExL.stOnE Hz hP hnt rfl rfl (by decide) rfl (by decide) (by simp [look]; exact .mk _ _ _) rfl (by simp [go_sem]; exact .mk _ _) (by first | exact True.intro | exact und9 | exact und4 | (unfold r64; omega) | omega | (simp; omega)) ?_
        refine ExL.stOnE Hz hP hnt rfl rfl (by decide) rfl (by decide) (by simp [look]; exact .mk _ _ _) rfl (by simp [go_sem]; exact .mk _ _) (by first | exact True.intro | exact und9 | exact und4 | (unfold r64; omega) | omega | (simp; omega)) ?_
        refine ExL.stOnE Hz hP hnt rfl rfl (by decide) rfl (by decide) (by simp [look]; exact .mk _ _ _) rfl (by simp [go_sem]; exact .mk _ _) (by first | exact True.intro | exact und9 | exact und4 | (unfold r64; omega) | omega | (simp; omega)) ?_
        refine ExL.stOnE Hz hP hnt rfl rfl (by decide) rfl (by decide) (by simp [look]; exact .mk _ _ _) rfl (by simp [go_sem]; exact .mk _ _) (by first | exact True.intro | exact und9 | exact und4 | (unfold r64; omega) | omega | (simp; omega)) ?_
        refine ExL.stOnE Hz hP hnt rfl rfl (by decide) rfl (by decide) (by simp [look]; exact .mk _ _ _) rfl (by simp [go_sem]; exact .mk _ _) (by first | exact True.intro | exact und9 | exact und4 | (unfold r64; omega) | omega | (simp; omega)) ?_
        refine ExL.stOnE Hz hP hnt rfl rfl (by decide) rfl (by decide) (by simp [look]; exact .mk _ _ _) rfl (by simp [go_sem]; exact .mk _ _) (by first | exact True.intro | exact und9 | exact und4 | (unfold r64; omega) | omega | (simp; omega)) ?_
        refine ExL.stOnE Hz hP hnt rfl rfl (by decide) rfl (by decide) (by simp [look]; exact .mk _ _ _) rfl (by simp [go_sem]; exact .mk _ _) (by first | exact True.intro | exact und9 | exact und4 | (unfold r64; omega) | omega | (simp; omega)) ?_
        refine ExL.st Hz hP hnt rfl rfl (by decide) (by simp [go_sem]; exact .mk _ _) (by first | exact True.intro | exact und9 | exact und4 | (unfold r64; omega) | omega | (simp; omega)) ?_
        refine ExL.nil ?_
        refine Wp.condE (by simp [go_sem]; exact .mk _ _ _) ?_ ?_
        · intro hc7
          try simp at hc7
          refine Wp.seq ?_
          refine Wp.regionE [0, 1, 2, 3, 4, 5] (by simp [trim]; exact .mk _) ?_
          refine ExL.st Hz hP hnt rfl rfl (by decide) (by simp [go_sem]; exact .mk _ _) (by first | exact True.intro | exact und9 | exact und4 | (unfold r64; omega) | omega | (simp; omega)) ?_
          refine ExL.nil ?_
          refine Wp.ret ?_
          refine retQ.mk (by simp [go_sem]; exact .mk _ _) ?_
          first | (simp [go_sem, Vsle, Vle, ACle, ACsle, eqT_mk, eqS, *]; done) | (simp [go_sem, Vsle, Vle, ACle, ACsle, eqT_mk, eqS]; omega) | (simp [go_sem, Vsle, Vle, ACle, ACsle, eqT_mk, eqS, hg1, hg3, hg5, hlen, q2, eqL_drop xs ys i hc8 (by omega), hc9]; done) | (simp [go_sem, Vsle, Vle, ACle, eqT_mk, eqS, hg1, hg3, hg5, q2, hlen, List.drop_eq_nil_of_le (show xs.length ≤ i by omega), eqL]; done) | skip
        · intro hc7
          try simp at hc7
          refine Wp.skip ?_
          refine Wp.seq ?_
          refine Wp.seq ?_
          refine Wp.regionE [0, 1, 2, 3, 4, 5] (by simp [trim]; exact .mk _) ?_
          refine ExL.st Hz hP hnt rfl rfl (by decide) (by simp [go_sem]; exact .mk _ _) (by first | exact True.intro | exact und9 | exact und4 | (unfold r64; omega) | omega | (simp; omega)) ?_
          refine ExL.nil ?_
          refine Wp.block ?_
          refine Wp.loop (ι := { j : Nat // j ≤ xs.length ∧ eqL xs ys = eqL (xs.drop j) (ys.drop j) }) (fun j => [(7, .val (vT (.mk k n s xs))), (10, .val (vT (.mk k' n' s' ys))), (6, .val (.one (.bp 2 0))), (9, .val (.one (.bp 3 0))), (15, .val (vI j.1))]) (fun j => xs.length - j.1) ⟨0, by simp, by simp⟩ (LeL.le (by simp [go_sem, LeL, AVle, Vle, ACsle, ACle, Tm.ds_mk])) ?_
          intro j
          obtain ⟨i, q1, q2⟩ := j
          show Wp _ _ _ [(7, .val (vT (.mk k n s xs))), (10, .val (vT (.mk k' n' s' ys))), (6, .val (.one (.bp 2 0))), (9, .val (.one (.bp 3 0))), (15, .val (vI i))]
          simp only [vT, Tm.ds_mk, List.map_cons, List.map_nil, dv_raw, dv_sl]
          have hlen : xs.length = ys.length := by omega
          have hlt : i < xs.length → i < ys.length := fun h => by omega
          refine Wp.seq ?_
          refine Wp.seq ?_
          refine Wp.regionE [0, 1, 2, 3, 4, 5] (by simp [trim]; exact .mk _) ?_
          refine ExL.st Hz hP hnt rfl rfl (by decide) (by simp [go_sem]; exact .mk _ _) (by first | exact True.intro | exact und9 | exact und4 | (unfold r64; omega) | omega | (simp; omega)) ?_
          refine ExL.st Hz hP hnt rfl rfl (by decide) (by simp [go_sem]; exact .mk _ _) (by first | exact True.intro | exact und9 | exact und4 | (unfold r64; omega) | omega | (simp; omega)) ?_
          refine ExL.st Hz hP hnt rfl rfl (by decide) (by simp [go_sem]; exact .mk _ _) (by first | exact True.intro | exact und9 | exact und4 | (unfold r64; omega) | omega | (simp; omega)) ?_
          refine ExL.st Hz hP hnt rfl rfl (by decide) (by simp [go_sem]; exact .mk _ _) (by first | exact True.intro | exact und9 | exact und4 | (unfold r64; omega) | omega | (simp; omega)) ?_
          refine ExL.st Hz hP hnt rfl rfl (by decide) (by simp [go_sem]; exact .mk _ _) (by first | exact True.intro | exact und9 | exact und4 | (unfold r64; omega) | omega | (simp; omega)) ?_
          refine ExL.nil ?_
          refine Wp.condE (by simp [go_sem]; exact .mk _ _ _) ?_ ?_
          · intro hc8
            try simp at hc8
            refine Wp.skip ?_
            refine Wp.seq ?_
            refine Wp.block ?_
            refine Wp.seq ?_
            refine Wp.drawE [0, 1, 2, 3, 4, 5] 10 (by rw [hP]; exact mixed) (by kernel_rfl) (by simp [trim]; exact .mk _) ?_
            refine ExS.st Hz hP hnt rfl rfl (by decide) (by simp [go_sem]; exact .mk _ _) (by first | exact True.intro | exact und9 | exact und4 | (unfold r64; omega) | omega | (simp; omega)) ?_
            refine ExS.st Hz hP hnt rfl rfl (by decide) (by simp [go_sem]; exact .mk _ _) (by first | exact True.intro | exact und9 | exact und4 | (unfold r64; omega) | omega | (simp; omega)) ?_
            refine ExS.st Hz hP hnt rfl rfl (by decide) (by simp [go_sem]; exact .mk _ _) (by first | exact True.intro | exact und9 | exact und4 | (unfold r64; omega) | omega | (simp; omega)) ?_
            refine ExS.st Hz hP hnt rfl rfl (by decide) (by simp [go_sem, hc8]; exact .mk _ _) (by first | exact True.intro | exact und9 | exact und4 | (unfold r64; omega) | omega | (simp; omega)) ?_
            refine ExS.st Hz hP hnt rfl rfl (by decide) (by simp [go_sem]; exact .mk _ _) (by first | exact True.intro | exact und9 | exact und4 | (unfold r64; omega) | omega | (simp; omega)) ?_
            refine ExS.st Hz hP hnt rfl rfl (by decide) (by simp [go_sem]; exact .mk _ _) (by first | exact True.intro | exact und9 | exact und4 | (unfold r64; omega) | omega | (simp; omega)) ?_
            refine ExS.st Hz hP hnt rfl rfl (by decide) (by simp [go_sem]; exact .mk _ _) (by first | exact True.intro | exact und9 | exact und4 | (unfold r64; omega) | omega | (simp; omega)) ?_
            refine ExS.st Hz hP hnt rfl rfl (by decide) (by simp [go_sem]; exact .mk _ _) (by first | exact True.intro | exact und9 | exact und4 | (unfold r64; omega) | omega | (simp; omega)) ?_
            refine ExS.st Hz hP hnt rfl rfl (by decide) (by simp [go_sem, hc8, hlt]; exact .mk _ _) (by first | exact True.intro | exact und9 | exact und4 | (unfold r64; omega) | omega | (simp; omega)) ?_
            refine ExS.st Hz hP hnt rfl rfl (by decide) (by simp [go_sem]; exact .mk _ _) (by first | exact True.intro | exact und9 | exact und4 | (unfold r64; omega) | omega | (simp; omega)) ?_
            refine ExS.nil ?_
            refine ExL.call (h52 xs[i] (by simp) (ys[i]'(by omega)) (by simp)) Try.func52 hP hnt rfl rfl rfl (by decide) (by kernel_rfl) rfl (by simp [go_sem]; exact .mk _ _) (by simp [go_sem, Vsle, Vle, ACsle, ACle, ACsle.refl]) (by simp [go_sem]) ?_
            refine ExL.st Hz hP hnt rfl rfl (by decide) (by simp [go_sem]; exact .mk _ _) (by first | exact True.intro | exact und9 | exact und4 | (unfold r64; omega) | omega | (simp; omega)) ?_
            refine ExL.nil ?_
            refine Wp.condE (by simp [go_sem]; exact .mk _ _ _) ?_ ?_
            · intro hc9
              try simp at hc9
              refine Wp.seq ?_
              refine Wp.regionE [0, 1, 2, 3, 4, 5] (by simp [trim]; exact .mk _) ?_
              refine ExL.st Hz hP hnt rfl rfl (by decide) (by simp [go_sem]; exact .mk _ _) (by first | exact True.intro | exact und9 | exact und4 | (unfold r64; omega) | omega | (simp; omega)) ?_
              refine ExL.nil ?_
              refine Wp.ret ?_
              refine retQ.mk (by simp [go_sem]; exact .mk _ _) ?_
              first | (simp [go_sem, Vsle, Vle, ACle, ACsle, eqT_mk, eqS, *]; done) | (simp [go_sem, Vsle, Vle, ACle, ACsle, eqT_mk, eqS]; omega) | (simp [go_sem, Vsle, Vle, ACle, ACsle, eqT_mk, eqS, hg1, hg3, hg5, hlen, q2, eqL_drop xs ys i hc8 (by omega), hc9]; done) | (simp [go_sem, Vsle, Vle, ACle, eqT_mk, eqS, hg1, hg3, hg5, q2, hlen, List.drop_eq_nil_of_le (show xs.length ≤ i by omega), eqL]; done) | skip
            · intro hc9
              try simp at hc9
              refine Wp.skip ?_
              refine Wp.regionE [0, 1, 2, 3, 4, 5] (by simp [trim]; exact .mk _) ?_
              refine ExL.st Hz hP hnt rfl rfl (by decide) (by simp [go_sem]; exact .mk _ _) (by first | exact True.intro | exact und9 | exact und4 | (unfold r64; omega) | omega | (simp; omega)) ?_
              refine ExL.st Hz hP hnt rfl rfl (by decide) (by simp [go_sem]; exact .mk _ _) (by first | exact True.intro | exact und9 | exact und4 | (unfold r64; omega) | omega | (simp; omega)) ?_
              refine ExL.st Hz hP hnt rfl rfl (by decide) (by simp [go_sem]; exact .mk _ _) (by first | exact True.intro | exact und9 | exact und4 | (unfold r64; omega) | omega | (simp; omega)) ?_
              refine ExL.nil ?_
              exact ⟨⟨i + 1, hc8, by rw [q2, eqL_drop xs ys i hc8 (by omega), hc9, Bool.true_and]⟩, LeL.le (by simp [go_sem, LeL, AVle, Vle, ACsle, ACle, Tm.ds_mk]), by show xs.length - (i + 1) < xs.length - i; omega⟩
          · intro hc8
            try simp at hc8
            refine Wp.exit ?_
            refine Wp.seq ?_
            refine Wp.regionE [0, 1, 2, 3, 4, 5] (by simp [trim]; exact .mk _) ?_
            refine ExL.st Hz hP hnt rfl rfl (by decide) (by simp [go_sem]; exact .mk _ _) (by first | exact True.intro | exact und9 | exact und4 | (unfold r64; omega) | omega | (simp; omega)) ?_
            refine ExL.nil ?_
            refine Wp.ret ?_
            refine retQ.mk (by simp [go_sem]; exact .mk _ _) ?_
            first | (simp [go_sem, Vsle, Vle, ACle, ACsle, eqT_mk, eqS, *]; done) | (simp [go_sem, Vsle, Vle, ACle, ACsle, eqT_mk, eqS]; omega) | (simp [go_sem, Vsle, Vle, ACle, ACsle, eqT_mk, eqS, hg1, hg3, hg5, hlen, q2, eqL_drop xs ys i hc8 (by omega), hc9]; done) | (simp [go_sem, Vsle, Vle, ACle, eqT_mk, eqS, hg1, hg3, hg5, q2, hlen, List.drop_eq_nil_of_le (show xs.length ≤ i by omega), eqL]; done) | skip
end Go.RF.S
