/- The functions of this seat, walked in that logic. -/
import Derived.Test.YtmahppdampmpfaaT11
set_option linter.unusedVariables false
set_option linter.unusedSimpArgs false
namespace Go.RF.S
open Go Go.Proofs Go.RF
theorem w5 (a : ByteArray) (x : Tm) (ha : a.size ≤ 9223372036854775807) (hx : x.ok 9223372036854775807) :
    PC Try.prog 5 ([vT x, vS a].map .val) [vB true] [] := by
  refine PC_of Try.func5 rfl rfl Try.ntmps5 (by simp) fun E hP hnt hnp => ?_
  simp only [vT, vS, List.map_cons, List.map_nil, dv_raw, dv_sl, dv_ptr, dv_fn, inMap, Nat.reduceAdd]
  refine Wp.seq ?_
  refine Wp.regionE [0, 1, 2, 4, 5, 6, 7, 8] (by simp [trim]; exact .mk _) ?_
  refine ExL.ef Hz hP hnt hnp rfl (by decide) (by simp [go_sem, eqT_self]; exact .mk _ _) trivial ?_
  refine ExL.st Hz hP hnt rfl rfl (by decide) (by simp [go_sem, eqT_self]; exact .mk _ _) (by first | exact True.intro | exact und9 | exact und4 | (unfold r64; omega) | omega | (simp; omega)) ?_
  refine ExL.nil ?_
  refine Wp.seq ?_
  refine Wp.seq ?_
  refine Wp.regionE [0, 1, 2, 4, 5, 6, 7, 8] (by simp [trim]; exact .mk _) ?_
  refine ExL.st Hz hP hnt rfl rfl (by decide) (by simp [go_sem, eqT_self]; exact .mk _ _) (by first | exact True.intro | exact und9 | exact und4 | (unfold r64; omega) | omega | (simp; omega)) ?_
  refine ExL.st Hz hP hnt rfl rfl (by decide) (by simp [go_sem, eqT_self]; exact .mk _ _) (by first | exact True.intro | exact und9 | exact und4 | (unfold r64; omega) | omega | (simp; omega)) ?_
  refine ExL.st Hz hP hnt rfl rfl (by decide) (by simp [go_sem, eqT_self]; exact .mk _ _) (by first | exact True.intro | exact und9 | exact und4 | (unfold r64; omega) | omega | (simp; omega)) ?_
  refine ExL.nil ?_
  refine Wp.condE (by simp [go_sem, eqT_self]; exact .mk _ _ _) ?_ ?_
  · intro hc1
    try simp at hc1
    refine Wp.seq ?_
    refine Wp.regionE [0, 1, 2, 4, 5, 6, 7, 8] (by simp [trim]; exact .mk _) ?_
    refine ExL.st Hz hP hnt rfl rfl (by decide) (by simp [go_sem, eqT_self]; exact .mk _ _) (by first | exact True.intro | exact und9 | exact und4 | (unfold r64; omega) | omega | (simp; omega)) ?_
    refine ExL.nil ?_
    refine Wp.ret ?_
    refine retQ.mk (by simp [go_sem, eqT_self]; exact .mk _ _) ?_
    simp [go_sem, Vsle, Vle, ACle]
  · intro hc1
    try simp at hc1
    refine Wp.skip ?_
    refine Wp.seq ?_
    refine Wp.regionE [0, 1, 2, 4, 5, 6, 7, 8] (by simp [trim]; exact .mk _) ?_
    refine ExL.st Hz hP hnt rfl rfl (by decide) (by simp [go_sem, eqT_self]; exact .mk _ _) (by first | exact True.intro | exact und9 | exact und4 | (unfold r64; omega) | omega | (simp; omega)) ?_
    refine ExL.nil ?_
    refine Wp.seq ?_
    refine Wp.regionE [0, 1, 2, 4, 5, 6, 7, 8] (by simp [trim]; exact .mk _) ?_
    refine ExL.st Hz hP hnt rfl rfl (by decide) (by simp [go_sem, eqT_self]; exact .mk _ _) (by first | exact True.intro | exact und9 | exact und4 | (unfold r64; omega) | omega | (simp; omega)) ?_
    refine ExL.st Hz hP hnt rfl rfl (by decide) (by simp [go_sem, eqT_self]; exact .mk _ _) (by first | exact True.intro | exact und9 | exact und4 | (unfold r64; omega) | omega | (simp; omega)) ?_
    refine ExL.call (pc14 x hx 1048576 (by omega) (by omega)) Try.func14 hP hnt rfl rfl rfl (by decide) rfl rfl (by simp [go_sem, eqT_self]; exact .mk _ _) (by simp [go_sem, Vsle, Vle, ACsle, ACle, ACsle.refl, eqT_self]) (by simp [go_sem, eqT_self]) ?_
    refine ExL.st Hz hP hnt rfl rfl (by decide) (by simp [go_sem, eqT_self]; exact .mk _ _) (by first | exact True.intro | exact und9 | exact und4 | (unfold r64; omega) | omega | (simp; omega)) ?_
    refine ExL.nil ?_
    refine Wp.seq ?_
    refine Wp.seq ?_
    refine Wp.regionE [0, 1, 2, 4, 5, 6, 7, 8] (by simp [trim]; exact .mk _) ?_
    refine ExL.st Hz hP hnt rfl rfl (by decide) (by simp [go_sem, eqT_self]; exact .mk _ _) (by first | exact True.intro | exact und9 | exact und4 | (unfold r64; omega) | omega | (simp; omega)) ?_
    refine ExL.st Hz hP hnt rfl rfl (by decide) (by simp [go_sem, eqT_self]; exact .mk _ _) (by first | exact True.intro | exact und9 | exact und4 | (unfold r64; omega) | omega | (simp; omega)) ?_
    refine ExL.nil ?_
    refine Wp.condE (by simp [go_sem, eqT_self]; exact .mk _ _ _) ?_ ?_
    · intro hc2
      try simp at hc2
      refine Wp.seq ?_
      refine Wp.regionE [0, 1, 2, 4, 5, 6, 7, 8] (by simp [trim]; exact .mk _) ?_
      refine ExL.st Hz hP hnt rfl rfl (by decide) (by simp [go_sem, eqT_self]; exact .mk _ _) (by first | exact True.intro | exact und9 | exact und4 | (unfold r64; omega) | omega | (simp; omega)) ?_
      refine ExL.nil ?_
      refine Wp.ret ?_
      refine retQ.mk (by simp [go_sem, eqT_self]; exact .mk _ _) ?_
      simp [go_sem, Vsle, Vle, ACle]
    · intro hc2
      try simp at hc2
      refine Wp.skip ?_
      refine Wp.seq ?_
      refine Wp.regionE [0, 1, 2, 4, 5, 6, 7, 8] (by simp [trim]; exact .mk _) ?_
      refine ExL.st Hz hP hnt rfl rfl (by decide) (by simp [go_sem, eqT_self]; exact .mk _ _) (by first | exact True.intro | exact und9 | exact und4 | (unfold r64; omega) | omega | (simp; omega)) ?_
      refine ExL.call (pc16 x (sz_ok x 1048576 (by omega) (by omega) hc2)) Try.func16 hP hnt rfl rfl rfl (by decide) rfl rfl (by simp [go_sem, eqT_self]; exact .mk _ _) (by simp [go_sem, Vsle, Vle, ACsle, ACle, ACsle.refl, eqT_self]) (by simp [go_sem, eqT_self]) ?_
      refine ExL.st Hz hP hnt rfl rfl (by decide) (by simp [go_sem, eqT_self]; exact .mk _ _) (by first | exact True.intro | exact und9 | exact und4 | (unfold r64; omega) | omega | (simp; omega)) ?_
      refine ExL.call (pc15 a x (sz_ok x 1048576 (by omega) (by omega) hc2)) Try.func15 hP hnt rfl rfl rfl (by decide) rfl rfl (by simp [go_sem, eqT_self]; exact .mk _ _) (by simp [go_sem, Vsle, Vle, ACsle, ACle, ACsle.refl, eqT_self]) (by simp [go_sem, eqT_self]) ?_
      refine ExL.st Hz hP hnt rfl rfl (by decide) (by simp [go_sem, eqT_self]; exact .mk _ _) (by first | exact True.intro | exact und9 | exact und4 | (unfold r64; omega) | omega | (simp; omega)) ?_
      refine ExL.nil ?_
      refine Wp.seq ?_
      refine Wp.regionE [0, 1, 2, 4, 5, 6, 7, 8] (by simp [trim]; exact .mk _) ?_
      refine ExL.st Hz hP hnt rfl rfl (by decide) (by simp [go_sem, eqT_self]; exact .mk _ _) (by first | exact True.intro | exact und9 | exact und4 | (unfold r64; omega) | omega | (simp; omega)) ?_
      refine ExL.call (pc16 x (sz_ok x 1048576 (by omega) (by omega) hc2)) Try.func16 hP hnt rfl rfl rfl (by decide) rfl rfl (by simp [go_sem, eqT_self]; exact .mk _ _) (by simp [go_sem, Vsle, Vle, ACsle, ACle, ACsle.refl, eqT_self]) (by simp [go_sem, eqT_self]) ?_
      refine ExL.ef Hz hP hnt hnp rfl (by decide) (by simp [go_sem, eqT_self]; exact .mk _ _) trivial ?_
      refine ExL.ef Hz hP hnt hnp rfl (by decide) (by simp [go_sem, eqT_self]; exact .mk _ _) trivial ?_
      refine ExL.nil ?_
      refine Wp.seq ?_
      refine Wp.regionE [0, 1, 2, 4, 5, 6, 7, 8] (by simp [trim]; exact .mk _) ?_
      refine ExL.st Hz hP hnt rfl rfl (by decide) (by simp [go_sem, eqT_self]; exact .mk _ _) (by first | exact True.intro | exact und9 | exact und4 | (unfold r64; omega) | omega | (simp; omega)) ?_
      refine ExL.st Hz hP hnt rfl rfl (by decide) (by simp [go_sem, eqT_self]; exact .mk _ _) (by first | exact True.intro | exact und9 | exact und4 | (unfold r64; omega) | omega | (simp; omega)) ?_
      refine ExL.call (pc17 a x (sz_ok x 1048576 (by omega) (by omega) hc2)) Try.func17 hP hnt rfl rfl rfl (by decide) rfl rfl (by simp [go_sem, eqT_self]; exact .mk _ _) (by simp [go_sem, Vsle, Vle, ACsle, ACle, ACsle.refl, eqT_self]) (by simp [go_sem, eqT_self]) ?_
      refine ExL.st Hz hP hnt rfl rfl (by decide) (by simp [go_sem, eqT_self]; exact .mk _ _) (by first | exact True.intro | exact und9 | exact und4 | (unfold r64; omega) | omega | (simp; omega)) ?_
      refine ExL.nil ?_
      refine Wp.seq ?_
      refine Wp.seq ?_
      refine Wp.regionE [0, 1, 2, 4, 5, 6, 7, 8] (by simp [trim]; exact .mk _) ?_
      refine ExL.st Hz hP hnt rfl rfl (by decide) (by simp [go_sem, eqT_self]; exact .mk _ _) (by first | exact True.intro | exact und9 | exact und4 | (unfold r64; omega) | omega | (simp; omega)) ?_
      refine ExL.st Hz hP hnt rfl rfl (by decide) (by simp [go_sem, eqT_self]; exact .mk _ _) (by first | exact True.intro | exact und9 | exact und4 | (unfold r64; omega) | omega | (simp; omega)) ?_
      refine ExL.st Hz hP hnt rfl rfl (by decide) (by simp [go_sem, eqT_self]; exact .mk _ _) (by first | exact True.intro | exact und9 | exact und4 | (unfold r64; omega) | omega | (simp; omega)) ?_
      refine ExL.nil ?_
      refine Wp.condE (by simp [go_sem, eqT_self]; exact .mk _ _ _) ?_ ?_
      · intro hc3
        simp [eqT_self] at hc3
      · intro hc3
        try simp at hc3
        refine Wp.skip ?_
        refine Wp.seq ?_
        refine Wp.seq ?_
        refine Wp.any [0, 1, 2, 4, 5, 6, 7, 8] (by rw [hP]; exact mixed) rfl (by simp [trim]; exact .mk _) ?_
        refine ExA.step2 0 1 (by kernel_rfl) rfl rfl (OpK.st Hz hP hnt rfl (by decide) (by simp [go_sem, eqT_self]; exact .mk _ _) (by first | exact True.intro | exact und9 | exact und4 | (unfold r64; omega) | omega | (simp; omega))) rfl rfl (OpK.st Hz hP hnt rfl (by decide) (by simp [go_sem, eqT_self]; exact .mk _ _) (by first | exact True.intro | exact und9 | exact und4 | (unfold r64; omega) | omega | (simp; omega))) ?_ ?_
        · skip
          refine ExA.step1 1 (by kernel_rfl) rfl rfl (OpK.st Hz hP hnt rfl (by decide) (by simp [go_sem, eqT_self]; exact .mk _ _) (by first | exact True.intro | exact und9 | exact und4 | (unfold r64; omega) | omega | (simp; omega))) ?_
          refine ExA.step1 2 (by kernel_rfl) rfl rfl (OpK.call (pc16 x (sz_ok x 1048576 (by omega) (by omega) hc2)) Try.func16 hP hnt rfl rfl (by decide) rfl rfl (by simp [go_sem, eqT_self]; exact .mk _ _) (by simp [go_sem, Vsle, Vle, ACsle, ACle, ACsle.refl, eqT_self]) (by simp [go_sem, eqT_self]) (by simp [go_sem, eqT_self]; exact .mk _)) ?_
          refine ExA.step1 3 (by kernel_rfl) rfl rfl (OpK.call (pc18 x x (sz_ok x 1048576 (by omega) (by omega) hc2)) Try.func18 hP hnt rfl rfl (by decide) rfl rfl (by simp [go_sem, eqT_self]; exact .mk _ _) (by simp [go_sem, Vsle, Vle, ACsle, ACle, ACsle.refl, eqT_self]) (by simp [go_sem, eqT_self]) (by simp [go_sem, eqT_self]; exact .mk _)) ?_
          refine ExA.step1 4 (by kernel_rfl) rfl rfl (OpK.st Hz hP hnt rfl (by decide) (by simp [go_sem, eqT_self]; exact .mk _ _) (by first | exact True.intro | exact und9 | exact und4 | (unfold r64; omega) | omega | (simp; omega))) ?_
          refine ExA.done (by kernel_rfl) ?_
          refine Wp.condE (by simp [go_sem, eqT_self]; exact .mk _ _ _) ?_ ?_
          · intro hc4
            simp [eqT_self] at hc4
          · intro hc4
            try simp at hc4
            refine Wp.skip ?_
            refine Wp.seq ?_
            refine Wp.regionE [0, 1, 2, 4, 5, 6, 7, 8] (by simp [trim]; exact .mk _) ?_
            refine ExL.st Hz hP hnt rfl rfl (by decide) (by simp [go_sem, eqT_self]; exact .mk _ _) (by first | exact True.intro | exact und9 | exact und4 | (unfold r64; omega) | omega | (simp; omega)) ?_
            refine ExL.nil ?_
            refine Wp.ret ?_
            refine retQ.mk (by simp [go_sem, eqT_self]; exact .mk _ _) ?_
            simp [go_sem, Vsle, Vle, ACle]
        · skip
          refine ExA.step2 0 2 (by kernel_rfl) rfl rfl (OpK.st Hz hP hnt rfl (by decide) (by simp [go_sem, eqT_self]; exact .mk _ _) (by first | exact True.intro | exact und9 | exact und4 | (unfold r64; omega) | omega | (simp; omega))) rfl rfl (OpK.call (pc16 x (sz_ok x 1048576 (by omega) (by omega) hc2)) Try.func16 hP hnt rfl rfl (by decide) rfl rfl (by simp [go_sem, eqT_self]; exact .mk _ _) (by simp [go_sem, Vsle, Vle, ACsle, ACle, ACsle.refl, eqT_self]) (by simp [go_sem, eqT_self]) (by simp [go_sem, eqT_self]; exact .mk _)) ?_ ?_
          · skip
            refine ExA.step1 2 (by kernel_rfl) rfl rfl (OpK.call (pc16 x (sz_ok x 1048576 (by omega) (by omega) hc2)) Try.func16 hP hnt rfl rfl (by decide) rfl rfl (by simp [go_sem, eqT_self]; exact .mk _ _) (by simp [go_sem, Vsle, Vle, ACsle, ACle, ACsle.refl, eqT_self]) (by simp [go_sem, eqT_self]) (by simp [go_sem, eqT_self]; exact .mk _)) ?_
            refine ExA.step1 3 (by kernel_rfl) rfl rfl (OpK.call (pc18 x x (sz_ok x 1048576 (by omega) (by omega) hc2)) Try.func18 hP hnt rfl rfl (by decide) rfl rfl (by simp [go_sem, eqT_self]; exact .mk _ _) (by simp [go_sem, Vsle, Vle, ACsle, ACle, ACsle.refl, eqT_self]) (by simp [go_sem, eqT_self]) (by simp [go_sem, eqT_self]; exact .mk _)) ?_
            refine ExA.step1 4 (by kernel_rfl) rfl rfl (OpK.st Hz hP hnt rfl (by decide) (by simp [go_sem, eqT_self]; exact .mk _ _) (by first | exact True.intro | exact und9 | exact und4 | (unfold r64; omega) | omega | (simp; omega))) ?_
            refine ExA.done (by kernel_rfl) ?_
            refine Wp.condE (by simp [go_sem, eqT_self]; exact .mk _ _ _) ?_ ?_
            · intro hc4
              simp [eqT_self] at hc4
            · intro hc4
              try simp at hc4
              refine Wp.skip ?_
              refine Wp.seq ?_
              refine Wp.regionE [0, 1, 2, 4, 5, 6, 7, 8] (by simp [trim]; exact .mk _) ?_
              refine ExL.st Hz hP hnt rfl rfl (by decide) (by simp [go_sem, eqT_self]; exact .mk _ _) (by first | exact True.intro | exact und9 | exact und4 | (unfold r64; omega) | omega | (simp; omega)) ?_
              refine ExL.nil ?_
              refine Wp.ret ?_
              refine retQ.mk (by simp [go_sem, eqT_self]; exact .mk _ _) ?_
              simp [go_sem, Vsle, Vle, ACle]
          · skip
            refine ExA.step1 0 (by kernel_rfl) rfl rfl (OpK.st Hz hP hnt rfl (by decide) (by simp [go_sem, eqT_self]; exact .mk _ _) (by first | exact True.intro | exact und9 | exact und4 | (unfold r64; omega) | omega | (simp; omega))) ?_
            refine ExA.step1 3 (by kernel_rfl) rfl rfl (OpK.call (pc18 x x (sz_ok x 1048576 (by omega) (by omega) hc2)) Try.func18 hP hnt rfl rfl (by decide) rfl rfl (by simp [go_sem, eqT_self]; exact .mk _ _) (by simp [go_sem, Vsle, Vle, ACsle, ACle, ACsle.refl, eqT_self]) (by simp [go_sem, eqT_self]) (by simp [go_sem, eqT_self]; exact .mk _)) ?_
            refine ExA.step1 4 (by kernel_rfl) rfl rfl (OpK.st Hz hP hnt rfl (by decide) (by simp [go_sem, eqT_self]; exact .mk _ _) (by first | exact True.intro | exact und9 | exact und4 | (unfold r64; omega) | omega | (simp; omega))) ?_
            refine ExA.done (by kernel_rfl) ?_
            refine Wp.condE (by simp [go_sem, eqT_self]; exact .mk _ _ _) ?_ ?_
            · intro hc4
              simp [eqT_self] at hc4
            · intro hc4
              try simp at hc4
              refine Wp.skip ?_
              refine Wp.seq ?_
              refine Wp.regionE [0, 1, 2, 4, 5, 6, 7, 8] (by simp [trim]; exact .mk _) ?_
              refine ExL.st Hz hP hnt rfl rfl (by decide) (by simp [go_sem, eqT_self]; exact .mk _ _) (by first | exact True.intro | exact und9 | exact und4 | (unfold r64; omega) | omega | (simp; omega)) ?_
              refine ExL.nil ?_
              refine Wp.ret ?_
              refine retQ.mk (by simp [go_sem, eqT_self]; exact .mk _ _) ?_
              simp [go_sem, Vsle, Vle, ACle]
end Go.RF.S
