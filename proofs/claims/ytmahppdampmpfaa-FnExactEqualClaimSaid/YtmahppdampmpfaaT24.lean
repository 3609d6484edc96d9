/- The functions of this seat, walked in that logic. -/
import Derived.Test.YtmahppdampmpfaaT23
set_option linter.unusedVariables false
set_option linter.unusedSimpArgs false
namespace Go.RF.S
open Go Go.Proofs Go.RF
@[go_sem] theorem Cl.take' (g : Cl) : (g.ds.map dv).take 10 = g.ds.map dv := List.take_of_length_le (by simp [Cl.ds_len])
@[go_sem] theorem Cl.take (g : Cl) : g.ds.take 10 = g.ds := List.take_of_length_le (by simp [Cl.ds_len])
@[go_sem] theorem Cl.len (g : Cl) : g.ds.length = 10 := Cl.ds_len g
@[go_sem] theorem spl_C (g : Cl) (a b c d e f h i j k : AC) : spl 0 (g.ds.map dv) [a, b, c, d, e, f, h, i, j, k] = g.ds.map dv := spl_full _ _ (by simp [Cl.ds_len])
set_option maxHeartbeats 8000000 in
theorem w6 (x y : Cl) (hx : x.ok 9223372036854775807) (hy : y.ok 9223372036854775807) :
    PC Try.prog 6 ([vC x, vC y].map .val) [vB true] [] := by
  refine PC_of Try.func6 rfl rfl Try.ntmps6 (by simp) fun E hP hnt hnp => ?_
  simp only [vC, List.map_cons, List.map_nil, dv_raw, dv_sl, dv_ptr, dv_fn, inMap, Nat.reduceAdd]
  refine Wp.seq ?_
  refine Wp.regionE [0, 1, 2, 3, 4, 5, 6, 7, 8, 9] (by simp [trim]; exact .mk _) ?_
  refine ExL.ef Hz hP hnt hnp rfl (by decide) (by simp [go_sem, eqCl_self]; exact .mk _ _) trivial ?_
  refine ExL.ef Hz hP hnt hnp rfl (by decide) (by simp [go_sem, eqCl_self]; exact .mk _ _) trivial ?_
  refine ExL.st Hz hP hnt rfl rfl (by decide) (by simp [go_sem, eqCl_self]; exact .mk _ _) (by first | exact True.intro | exact und9 | exact und4 | (unfold r64; omega) | omega | (simp; omega)) ?_
  refine ExL.nil ?_
  refine Wp.seq ?_
  refine Wp.regionE [0, 1, 2, 3, 4, 5, 6, 7, 8, 9] (by simp [trim]; exact .mk _) ?_
  refine ExL.st Hz hP hnt rfl rfl (by decide) (by simp [go_sem, eqCl_self]; exact .mk _ _) (by first | exact True.intro | exact und9 | exact und4 | (unfold r64; omega) | omega | (simp; omega)) ?_
  refine ExL.nil ?_
  refine Wp.seq ?_
  refine Wp.regionE [0, 1, 2, 3, 4, 5, 6, 7, 8, 9] (by simp [trim]; exact .mk _) ?_
  refine ExL.st Hz hP hnt rfl rfl (by decide) (by simp [go_sem, eqCl_self]; exact .mk _ _) (by first | exact True.intro | exact und9 | exact und4 | (unfold r64; omega) | omega | (simp; omega)) ?_
  refine ExL.st Hz hP hnt rfl rfl (by decide) (by simp [go_sem, eqCl_self]; exact .mk _ _) (by first | exact True.intro | exact und9 | exact und4 | (unfold r64; omega) | omega | (simp; omega)) ?_
  refine ExL.call (pc19 x hx 1048576 (by omega) (by omega)) Try.func19 hP hnt rfl rfl rfl (by decide) (by kernel_rfl) rfl (by simp [go_sem, eqCl_self]; exact .mk _ _) (by simp [go_sem, Vsle, Vle, ACsle, ACle, ACsle.refl, eqCl_self]) (by simp [go_sem, eqCl_self]) ?_
  refine ExL.st Hz hP hnt rfl rfl (by decide) (by simp [go_sem, eqCl_self]; exact .mk _ _) (by first | exact True.intro | exact und9 | exact und4 | (unfold r64; omega) | omega | (simp; omega)) ?_
  refine ExL.nil ?_
  refine Wp.seq ?_
  refine Wp.seq ?_
  refine Wp.regionE [0, 1, 2, 3, 4, 5, 6, 7, 8, 9] (by simp [trim]; exact .mk _) ?_
  refine ExL.st Hz hP hnt rfl rfl (by decide) (by simp [go_sem, eqCl_self]; exact .mk _ _) (by first | exact True.intro | exact und9 | exact und4 | (unfold r64; omega) | omega | (simp; omega)) ?_
  refine ExL.st Hz hP hnt rfl rfl (by decide) (by simp [go_sem, eqCl_self]; exact .mk _ _) (by first | exact True.intro | exact und9 | exact und4 | (unfold r64; omega) | omega | (simp; omega)) ?_
  refine ExL.nil ?_
  refine Wp.condE (by simp [go_sem, eqCl_self]; exact .mk _ _ _) ?_ ?_
  · intro hc1
    try simp at hc1
    refine Wp.seq ?_
    refine Wp.regionE [0, 1, 2, 3, 4, 5, 6, 7, 8, 9] (by simp [trim]; exact .mk _) ?_
    refine ExL.st Hz hP hnt rfl rfl (by decide) (by simp [go_sem, eqCl_self]; exact .mk _ _) (by first | exact True.intro | exact und9 | exact und4 | (unfold r64; omega) | omega | (simp; omega)) ?_
    refine ExL.nil ?_
    refine Wp.ret ?_
    refine retQ.mk (by simp [go_sem, eqCl_self]; exact .mk _ _) ?_
    simp [go_sem, Vsle, Vle, ACle]
  · intro hc1
    try simp at hc1
    refine Wp.skip ?_
    refine Wp.seq ?_
    refine Wp.regionE [0, 1, 2, 3, 4, 5, 6, 7, 8, 9] (by simp [trim]; exact .mk _) ?_
    refine ExL.st Hz hP hnt rfl rfl (by decide) (by simp [go_sem, eqCl_self]; exact .mk _ _) (by first | exact True.intro | exact und9 | exact und4 | (unfold r64; omega) | omega | (simp; omega)) ?_
    refine ExL.st Hz hP hnt rfl rfl (by decide) (by simp [go_sem, eqCl_self]; exact .mk _ _) (by first | exact True.intro | exact und9 | exact und4 | (unfold r64; omega) | omega | (simp; omega)) ?_
    refine ExL.call (pc19 y hy (szCl x 1048576) (by omega) (by have := szCl_le x 1048576 (by omega); omega)) Try.func19 hP hnt rfl rfl rfl (by decide) (by kernel_rfl) rfl (by simp [go_sem, eqCl_self]; exact .mk _ _) (by simp [go_sem, Vsle, Vle, ACsle, ACle, ACsle.refl, eqCl_self]) (by simp [go_sem, eqCl_self]) ?_
    refine ExL.st Hz hP hnt rfl rfl (by decide) (by simp [go_sem, eqCl_self]; exact .mk _ _) (by first | exact True.intro | exact und9 | exact und4 | (unfold r64; omega) | omega | (simp; omega)) ?_
    refine ExL.nil ?_
    refine Wp.seq ?_
    refine Wp.seq ?_
    refine Wp.regionE [0, 1, 2, 3, 4, 5, 6, 7, 8, 9] (by simp [trim]; exact .mk _) ?_
    refine ExL.st Hz hP hnt rfl rfl (by decide) (by simp [go_sem, eqCl_self]; exact .mk _ _) (by first | exact True.intro | exact und9 | exact und4 | (unfold r64; omega) | omega | (simp; omega)) ?_
    refine ExL.st Hz hP hnt rfl rfl (by decide) (by simp [go_sem, eqCl_self]; exact .mk _ _) (by first | exact True.intro | exact und9 | exact und4 | (unfold r64; omega) | omega | (simp; omega)) ?_
    refine ExL.nil ?_
    refine Wp.condE (by simp [go_sem, eqCl_self]; exact .mk _ _ _) ?_ ?_
    · intro hc2
      try simp at hc2
      refine Wp.seq ?_
      refine Wp.regionE [0, 1, 2, 3, 4, 5, 6, 7, 8, 9] (by simp [trim]; exact .mk _) ?_
      refine ExL.st Hz hP hnt rfl rfl (by decide) (by simp [go_sem, eqCl_self]; exact .mk _ _) (by first | exact True.intro | exact und9 | exact und4 | (unfold r64; omega) | omega | (simp; omega)) ?_
      refine ExL.nil ?_
      refine Wp.ret ?_
      refine retQ.mk (by simp [go_sem, eqCl_self]; exact .mk _ _) ?_
      simp [go_sem, Vsle, Vle, ACle]
    · intro hc2
      try simp at hc2
      refine Wp.skip ?_
      refine Wp.seq ?_
      refine Wp.any [0, 1, 2, 3, 4, 5, 6, 7, 8, 9] (by rw [hP]; exact mixed) rfl (by simp [trim]; exact .mk _) ?_
      refine ExA.step2 0 2 (by kernel_rfl) rfl rfl (OpK.st Hz hP hnt rfl (by decide) (by simp [go_sem, eqCl_self]; exact .mk _ _) (by first | exact True.intro | exact und9 | exact und4 | (unfold r64; omega) | omega | (simp; omega))) rfl rfl (OpK.st Hz hP hnt rfl (by decide) (by simp [go_sem, eqCl_self]; exact .mk _ _) (by first | exact True.intro | exact und9 | exact und4 | (unfold r64; omega) | omega | (simp; omega))) ?_ ?_
      · skip
        refine ExA.step2 1 2 (by kernel_rfl) rfl rfl (OpK.call (pc21 x (szCl_ok x 1048576 (by omega) (by omega) hc1)) Try.func21 hP hnt rfl rfl (by decide) (by kernel_rfl) rfl (by simp [go_sem, eqCl_self]; exact .mk _ _) (by simp [go_sem, Vsle, Vle, ACsle, ACle, ACsle.refl, eqCl_self]) (by simp [go_sem, eqCl_self]) (by simp [go_sem, eqCl_self]; exact .mk _)) rfl rfl (OpK.st Hz hP hnt rfl (by decide) (by simp [go_sem, eqCl_self]; exact .mk _ _) (by first | exact True.intro | exact und9 | exact und4 | (unfold r64; omega) | omega | (simp; omega))) ?_ ?_
        · skip
          refine ExA.step1 2 (by kernel_rfl) rfl rfl (OpK.st Hz hP hnt rfl (by decide) (by simp [go_sem, eqCl_self]; exact .mk _ _) (by first | exact True.intro | exact und9 | exact und4 | (unfold r64; omega) | omega | (simp; omega))) ?_
          refine ExA.step1 3 (by kernel_rfl) rfl rfl (OpK.call (pc21 y (szCl_ok y (szCl x 1048576) (by omega) (by have := szCl_le x 1048576 (by omega); omega) hc2)) Try.func21 hP hnt rfl rfl (by decide) (by kernel_rfl) rfl (by simp [go_sem, eqCl_self]; exact .mk _ _) (by simp [go_sem, Vsle, Vle, ACsle, ACle, ACsle.refl, eqCl_self]) (by simp [go_sem, eqCl_self]) (by simp [go_sem, eqCl_self]; exact .mk _)) ?_
          refine ExA.step1 4 (by kernel_rfl) rfl rfl (OpK.call (pc20 x y (szCl_ok x 1048576 (by omega) (by omega) hc1)) Try.func20 hP hnt rfl rfl (by decide) (by kernel_rfl) rfl (by simp [go_sem, eqCl_self]; exact .mk _ _) (by simp [go_sem, Vsle, Vle, ACsle, ACle, ACsle.refl, eqCl_self]) (by simp [go_sem, eqCl_self]) (by simp [go_sem, eqCl_self]; exact .mk _)) ?_
          refine ExA.step1 5 (by kernel_rfl) rfl rfl (OpK.st Hz hP hnt rfl (by decide) (by simp [go_sem, eqCl_self]; exact .mk _ _) (by first | exact True.intro | exact und9 | exact und4 | (unfold r64; omega) | omega | (simp; omega))) ?_
          refine ExA.done (by kernel_rfl) ?_
          refine Wp.seq ?_
          refine Wp.regionE [0, 1, 2, 3, 4, 5, 6, 7, 8, 9] (by simp [trim]; exact .mk _) ?_
          refine ExL.st Hz hP hnt rfl rfl (by decide) (by simp [go_sem, eqCl_self]; exact .mk _ _) (by first | exact True.intro | exact und9 | exact und4 | (unfold r64; omega) | omega | (simp; omega)) ?_
          refine ExL.call (pc21 x (szCl_ok x 1048576 (by omega) (by omega) hc1)) Try.func21 hP hnt rfl rfl rfl (by decide) (by kernel_rfl) rfl (by simp [go_sem, eqCl_self]; exact .mk _ _) (by simp [go_sem, Vsle, Vle, ACsle, ACle, ACsle.refl, eqCl_self]) (by simp [go_sem, eqCl_self]) ?_
          refine ExL.ef Hz hP hnt hnp rfl (by decide) (by simp [go_sem, eqCl_self]; exact .mk _ _) trivial ?_
          refine ExL.ef Hz hP hnt hnp rfl (by decide) (by simp [go_sem, eqCl_self]; exact .mk _ _) trivial ?_
          refine ExL.nil ?_
          refine Wp.seq ?_
          refine Wp.regionE [0, 1, 2, 3, 4, 5, 6, 7, 8, 9] (by simp [trim]; exact .mk _) ?_
          refine ExL.st Hz hP hnt rfl rfl (by decide) (by simp [go_sem, eqCl_self]; exact .mk _ _) (by first | exact True.intro | exact und9 | exact und4 | (unfold r64; omega) | omega | (simp; omega)) ?_
          refine ExL.call (pc21 y (szCl_ok y (szCl x 1048576) (by omega) (by have := szCl_le x 1048576 (by omega); omega) hc2)) Try.func21 hP hnt rfl rfl rfl (by decide) (by kernel_rfl) rfl (by simp [go_sem, eqCl_self]; exact .mk _ _) (by simp [go_sem, Vsle, Vle, ACsle, ACle, ACsle.refl, eqCl_self]) (by simp [go_sem, eqCl_self]) ?_
          refine ExL.ef Hz hP hnt hnp rfl (by decide) (by simp [go_sem, eqCl_self]; exact .mk _ _) trivial ?_
          refine ExL.ef Hz hP hnt hnp rfl (by decide) (by simp [go_sem, eqCl_self]; exact .mk _ _) trivial ?_
          refine ExL.nil ?_
          refine Wp.seq ?_
          refine Wp.regionE [0, 1, 2, 3, 4, 5, 6, 7, 8, 9] (by simp [trim]; exact .mk _) ?_
          refine ExL.st Hz hP hnt rfl rfl (by decide) (by simp [go_sem, eqCl_self]; exact .mk _ _) (by first | exact True.intro | exact und9 | exact und4 | (unfold r64; omega) | omega | (simp; omega)) ?_
          refine ExL.st Hz hP hnt rfl rfl (by decide) (by simp [go_sem, eqCl_self]; exact .mk _ _) (by first | exact True.intro | exact und9 | exact und4 | (unfold r64; omega) | omega | (simp; omega)) ?_
          refine ExL.call (pc22 x y (szCl_ok x 1048576 (by omega) (by omega) hc1)) Try.func22 hP hnt rfl rfl rfl (by decide) (by kernel_rfl) rfl (by simp [go_sem, eqCl_self]; exact .mk _ _) (by simp [go_sem, Vsle, Vle, ACsle, ACle, ACsle.refl, eqCl_self]) (by simp [go_sem, eqCl_self]) ?_
          refine ExL.st Hz hP hnt rfl rfl (by decide) (by simp [go_sem, eqCl_self]; exact .mk _ _) (by first | exact True.intro | exact und9 | exact und4 | (unfold r64; omega) | omega | (simp; omega)) ?_
          refine ExL.nil ?_
          refine Wp.seq ?_
          refine Wp.seq ?_
          refine Wp.regionE [0, 1, 2, 3, 4, 5, 6, 7, 8, 9] (by simp [trim]; exact .mk _) ?_
          refine ExL.st Hz hP hnt rfl rfl (by decide) (by simp [go_sem, eqCl_self]; exact .mk _ _) (by first | exact True.intro | exact und9 | exact und4 | (unfold r64; omega) | omega | (simp; omega)) ?_
          refine ExL.st Hz hP hnt rfl rfl (by decide) (by simp [go_sem, eqCl_self]; exact .mk _ _) (by first | exact True.intro | exact und9 | exact und4 | (unfold r64; omega) | omega | (simp; omega)) ?_
          refine ExL.st Hz hP hnt rfl rfl (by decide) (by simp [go_sem, eqCl_self]; exact .mk _ _) (by first | exact True.intro | exact und9 | exact und4 | (unfold r64; omega) | omega | (simp; omega)) ?_
          refine ExL.nil ?_
          refine Wp.condE (by simp [go_sem, eqCl_self]; exact .mk _ _ _) ?_ ?_
          · intro hc3
            simp [eqCl_self] at hc3
          · intro hc3
            try simp at hc3
            refine Wp.skip ?_
            refine Wp.seq ?_
            refine Wp.seq ?_
            refine Wp.any [0, 1, 2, 3, 4, 5, 6, 7, 8, 9] (by rw [hP]; exact mixed) rfl (by simp [trim]; exact .mk _) ?_
            refine ExA.step2 0 1 (by kernel_rfl) rfl rfl (OpK.st Hz hP hnt rfl (by decide) (by simp [go_sem, eqCl_self]; exact .mk _ _) (by first | exact True.intro | exact und9 | exact und4 | (unfold r64; omega) | omega | (simp; omega))) rfl rfl (OpK.st Hz hP hnt rfl (by decide) (by simp [go_sem, eqCl_self]; exact .mk _ _) (by first | exact True.intro | exact und9 | exact und4 | (unfold r64; omega) | omega | (simp; omega))) ?_ ?_
            · skip
              refine ExA.step1 1 (by kernel_rfl) rfl rfl (OpK.st Hz hP hnt rfl (by decide) (by simp [go_sem, eqCl_self]; exact .mk _ _) (by first | exact True.intro | exact und9 | exact und4 | (unfold r64; omega) | omega | (simp; omega))) ?_
              refine ExA.step1 2 (by kernel_rfl) rfl rfl (OpK.call (pc21 x (szCl_ok x 1048576 (by omega) (by omega) hc1)) Try.func21 hP hnt rfl rfl (by decide) (by kernel_rfl) rfl (by simp [go_sem, eqCl_self]; exact .mk _ _) (by simp [go_sem, Vsle, Vle, ACsle, ACle, ACsle.refl, eqCl_self]) (by simp [go_sem, eqCl_self]) (by simp [go_sem, eqCl_self]; exact .mk _)) ?_
              refine ExA.step1 3 (by kernel_rfl) rfl rfl (OpK.call (pc23 x x (szCl_ok x 1048576 (by omega) (by omega) hc1)) Try.func23 hP hnt rfl rfl (by decide) (by kernel_rfl) rfl (by simp [go_sem, eqCl_self]; exact .mk _ _) (by simp [go_sem, Vsle, Vle, ACsle, ACle, ACsle.refl, eqCl_self]) (by simp [go_sem, eqCl_self]) (by simp [go_sem, eqCl_self]; exact .mk _)) ?_
              refine ExA.step1 4 (by kernel_rfl) rfl rfl (OpK.st Hz hP hnt rfl (by decide) (by simp [go_sem, eqCl_self]; exact .mk _ _) (by first | exact True.intro | exact und9 | exact und4 | (unfold r64; omega) | omega | (simp; omega))) ?_
              refine ExA.done (by kernel_rfl) ?_
              refine Wp.condE (by simp [go_sem, eqCl_self]; exact .mk _ _ _) ?_ ?_
              · intro hc4
                simp [eqCl_self] at hc4
              · intro hc4
                try simp at hc4
                refine Wp.skip ?_
                refine Wp.seq ?_
                refine Wp.seq ?_
                refine Wp.any [0, 1, 2, 3, 4, 5, 6, 7, 8, 9] (by rw [hP]; exact mixed) rfl (by simp [trim]; exact .mk _) ?_
                refine ExA.step2 0 1 (by kernel_rfl) rfl rfl (OpK.st Hz hP hnt rfl (by decide) (by simp [go_sem, eqCl_self]; exact .mk _ _) (by first | exact True.intro | exact und9 | exact und4 | (unfold r64; omega) | omega | (simp; omega))) rfl rfl (OpK.st Hz hP hnt rfl (by decide) (by simp [go_sem, eqCl_self]; exact .mk _ _) (by first | exact True.intro | exact und9 | exact und4 | (unfold r64; omega) | omega | (simp; omega))) ?_ ?_
                · skip
                  refine ExA.step1 1 (by kernel_rfl) rfl rfl (OpK.st Hz hP hnt rfl (by decide) (by simp [go_sem, eqCl_self]; exact .mk _ _) (by first | exact True.intro | exact und9 | exact und4 | (unfold r64; omega) | omega | (simp; omega))) ?_
                  refine ExA.step1 2 (by kernel_rfl) rfl rfl (OpK.call (pc21 y (szCl_ok y (szCl x 1048576) (by omega) (by have := szCl_le x 1048576 (by omega); omega) hc2)) Try.func21 hP hnt rfl rfl (by decide) (by kernel_rfl) rfl (by simp [go_sem, eqCl_self]; exact .mk _ _) (by simp [go_sem, Vsle, Vle, ACsle, ACle, ACsle.refl, eqCl_self]) (by simp [go_sem, eqCl_self]) (by simp [go_sem, eqCl_self]; exact .mk _)) ?_
                  refine ExA.step1 3 (by kernel_rfl) rfl rfl (OpK.call (pc23 y y (szCl_ok y (szCl x 1048576) (by omega) (by have := szCl_le x 1048576 (by omega); omega) hc2)) Try.func23 hP hnt rfl rfl (by decide) (by kernel_rfl) rfl (by simp [go_sem, eqCl_self]; exact .mk _ _) (by simp [go_sem, Vsle, Vle, ACsle, ACle, ACsle.refl, eqCl_self]) (by simp [go_sem, eqCl_self]) (by simp [go_sem, eqCl_self]; exact .mk _)) ?_
                  refine ExA.step1 4 (by kernel_rfl) rfl rfl (OpK.st Hz hP hnt rfl (by decide) (by simp [go_sem, eqCl_self]; exact .mk _ _) (by first | exact True.intro | exact und9 | exact und4 | (unfold r64; omega) | omega | (simp; omega))) ?_
                  refine ExA.done (by kernel_rfl) ?_
                  refine Wp.condE (by simp [go_sem, eqCl_self]; exact .mk _ _ _) ?_ ?_
                  · intro hc5
                    simp [eqCl_self] at hc5
                  · intro hc5
                    try simp at hc5
                    refine Wp.skip ?_
                    refine Wp.seq ?_
                    refine Wp.regionE [0, 1, 2, 3, 4, 5, 6, 7, 8, 9] (by simp [trim]; exact .mk _) ?_
                    refine ExL.st Hz hP hnt rfl rfl (by decide) (by simp [go_sem, eqCl_self]; exact .mk _ _) (by first | exact True.intro | exact und9 | exact und4 | (unfold r64; omega) | omega | (simp; omega)) ?_
                    refine ExL.nil ?_
                    refine Wp.ret ?_
                    refine retQ.mk (by simp [go_sem, eqCl_self]; exact .mk _ _) ?_
                    simp [go_sem, Vsle, Vle, ACle]
                · skip
                  refine ExA.step2 0 2 (by kernel_rfl) rfl rfl (OpK.st Hz hP hnt rfl (by decide) (by simp [go_sem, eqCl_self]; exact .mk _ _) (by first | exact True.intro | exact und9 | exact und4 | (unfold r64; omega) | omega | (simp; omega))) rfl rfl (OpK.call (pc21 y (szCl_ok y (szCl x 1048576) (by omega) (by have := szCl_le x 1048576 (by omega); omega) hc2)) Try.func21 hP hnt rfl rfl (by decide) (by kernel_rfl) rfl (by simp [go_sem, eqCl_self]; exact .mk _ _) (by simp [go_sem, Vsle, Vle, ACsle, ACle, ACsle.refl, eqCl_self]) (by simp [go_sem, eqCl_self]) (by simp [go_sem, eqCl_self]; exact .mk _)) ?_ ?_
                  · skip
                    refine ExA.step1 2 (by kernel_rfl) rfl rfl (OpK.call (pc21 y (szCl_ok y (szCl x 1048576) (by omega) (by have := szCl_le x 1048576 (by omega); omega) hc2)) Try.func21 hP hnt rfl rfl (by decide) (by kernel_rfl) rfl (by simp [go_sem, eqCl_self]; exact .mk _ _) (by simp [go_sem, Vsle, Vle, ACsle, ACle, ACsle.refl, eqCl_self]) (by simp [go_sem, eqCl_self]) (by simp [go_sem, eqCl_self]; exact .mk _)) ?_
                    refine ExA.step1 3 (by kernel_rfl) rfl rfl (OpK.call (pc23 y y (szCl_ok y (szCl x 1048576) (by omega) (by have := szCl_le x 1048576 (by omega); omega) hc2)) Try.func23 hP hnt rfl rfl (by decide) (by kernel_rfl) rfl (by simp [go_sem, eqCl_self]; exact .mk _ _) (by simp [go_sem, Vsle, Vle, ACsle, ACle, ACsle.refl, eqCl_self]) (by simp [go_sem, eqCl_self]) (by simp [go_sem, eqCl_self]; exact .mk _)) ?_
                    refine ExA.step1 4 (by kernel_rfl) rfl rfl (OpK.st Hz hP hnt rfl (by decide) (by simp [go_sem, eqCl_self]; exact .mk _ _) (by first | exact True.intro | exact und9 | exact und4 | (unfold r64; omega) | omega | (simp; omega))) ?_
                    refine ExA.done (by kernel_rfl) ?_
                    refine Wp.condE (by simp [go_sem, eqCl_self]; exact .mk _ _ _) ?_ ?_
                    · intro hc5
                      simp [eqCl_self] at hc5
                    · intro hc5
                      try simp at hc5
                      refine Wp.skip ?_
                      refine Wp.seq ?_
                      refine Wp.regionE [0, 1, 2, 3, 4, 5, 6, 7, 8, 9] (by simp [trim]; exact .mk _) ?_
                      refine ExL.st Hz hP hnt rfl rfl (by decide) (by simp [go_sem, eqCl_self]; exact .mk _ _) (by first | exact True.intro | exact und9 | exact und4 | (unfold r64; omega) | omega | (simp; omega)) ?_
                      refine ExL.nil ?_
                      refine Wp.ret ?_
                      refine retQ.mk (by simp [go_sem, eqCl_self]; exact .mk _ _) ?_
                      simp [go_sem, Vsle, Vle, ACle]
                  · skip
                    refine ExA.step1 0 (by kernel_rfl) rfl rfl (OpK.st Hz hP hnt rfl (by decide) (by simp [go_sem, eqCl_self]; exact .mk _ _) (by first | exact True.intro | exact und9 | exact und4 | (unfold r64; omega) | omega | (simp; omega))) ?_
                    refine ExA.step1 3 (by kernel_rfl) rfl rfl (OpK.call (pc23 y y (szCl_ok y (szCl x 1048576) (by omega) (by have := szCl_le x 1048576 (by omega); omega) hc2)) Try.func23 hP hnt rfl rfl (by decide) (by kernel_rfl) rfl (by simp [go_sem, eqCl_self]; exact .mk _ _) (by simp [go_sem, Vsle, Vle, ACsle, ACle, ACsle.refl, eqCl_self]) (by simp [go_sem, eqCl_self]) (by simp [go_sem, eqCl_self]; exact .mk _)) ?_
                    refine ExA.step1 4 (by kernel_rfl) rfl rfl (OpK.st Hz hP hnt rfl (by decide) (by simp [go_sem, eqCl_self]; exact .mk _ _) (by first | exact True.intro | exact und9 | exact und4 | (unfold r64; omega) | omega | (simp; omega))) ?_
                    refine ExA.done (by kernel_rfl) ?_
                    refine Wp.condE (by simp [go_sem, eqCl_self]; exact .mk _ _ _) ?_ ?_
                    · intro hc5
                      simp [eqCl_self] at hc5
                    · intro hc5
                      try simp at hc5
                      refine Wp.skip ?_
                      refine Wp.seq ?_
                      refine Wp.regionE [0, 1, 2, 3, 4, 5, 6, 7, 8, 9] (by simp [trim]; exact .mk _) ?_
                      refine ExL.st Hz hP hnt rfl rfl (by decide) (by simp [go_sem, eqCl_self]; exact .mk _ _) (by first | exact True.intro | exact und9 | exact und4 | (unfold r64; omega) | omega | (simp; omega)) ?_
                      refine ExL.nil ?_
                      refine Wp.ret ?_
                      refine retQ.mk (by simp [go_sem, eqCl_self]; exact .mk _ _) ?_
                      simp [go_sem, Vsle, Vle, ACle]
            · skip
              refine ExA.step2 0 2 (by kernel_rfl) rfl rfl (OpK.st Hz hP hnt rfl (by decide) (by simp [go_sem, eqCl_self]; exact .mk _ _) (by first | exact True.intro | exact und9 | exact und4 | (unfold r64; omega) | omega | (simp; omega))) rfl rfl (OpK.call (pc21 x (szCl_ok x 1048576 (by omega) (by omega) hc1)) Try.func21 hP hnt rfl rfl (by decide) (by kernel_rfl) rfl (by simp [go_sem, eqCl_self]; exact .mk _ _) (by simp [go_sem, Vsle, Vle, ACsle, ACle, ACsle.refl, eqCl_self]) (by simp [go_sem, eqCl_self]) (by simp [go_sem, eqCl_self]; exact .mk _)) ?_ ?_
              · skip
                refine ExA.step1 2 (by kernel_rfl) rfl rfl (OpK.call (pc21 x (szCl_ok x 1048576 (by omega) (by omega) hc1)) Try.func21 hP hnt rfl rfl (by decide) (by kernel_rfl) rfl (by simp [go_sem, eqCl_self]; exact .mk _ _) (by simp [go_sem, Vsle, Vle, ACsle, ACle, ACsle.refl, eqCl_self]) (by simp [go_sem, eqCl_self]) (by simp [go_sem, eqCl_self]; exact .mk _)) ?_
                refine ExA.step1 3 (by kernel_rfl) rfl rfl (OpK.call (pc23 x x (szCl_ok x 1048576 (by omega) (by omega) hc1)) Try.func23 hP hnt rfl rfl (by decide) (by kernel_rfl) rfl (by simp [go_sem, eqCl_self]; exact .mk _ _) (by simp [go_sem, Vsle, Vle, ACsle, ACle, ACsle.refl, eqCl_self]) (by simp [go_sem, eqCl_self]) (by simp [go_sem, eqCl_self]; exact .mk _)) ?_
                refine ExA.step1 4 (by kernel_rfl) rfl rfl (OpK.st Hz hP hnt rfl (by decide) (by simp [go_sem, eqCl_self]; exact .mk _ _) (by first | exact True.intro | exact und9 | exact und4 | (unfold r64; omega) | omega | (simp; omega))) ?_
                refine ExA.done (by kernel_rfl) ?_
                refine Wp.condE (by simp [go_sem, eqCl_self]; exact .mk _ _ _) ?_ ?_
                · intro hc4
                  simp [eqCl_self] at hc4
                · intro hc4
                  try simp at hc4
                  refine Wp.skip ?_
                  refine Wp.seq ?_
                  refine Wp.seq ?_
                  refine Wp.any [0, 1, 2, 3, 4, 5, 6, 7, 8, 9] (by rw [hP]; exact mixed) rfl (by simp [trim]; exact .mk _) ?_
                  refine ExA.step2 0 1 (by kernel_rfl) rfl rfl (OpK.st Hz hP hnt rfl (by decide) (by simp [go_sem, eqCl_self]; exact .mk _ _) (by first | exact True.intro | exact und9 | exact und4 | (unfold r64; omega) | omega | (simp; omega))) rfl rfl (OpK.st Hz hP hnt rfl (by decide) (by simp [go_sem, eqCl_self]; exact .mk _ _) (by first | exact True.intro | exact und9 | exact und4 | (unfold r64; omega) | omega | (simp; omega))) ?_ ?_
                  · skip
                    refine ExA.step1 1 (by kernel_rfl) rfl rfl (OpK.st Hz hP hnt rfl (by decide) (by simp [go_sem, eqCl_self]; exact .mk _ _) (by first | exact True.intro | exact und9 | exact und4 | (unfold r64; omega) | omega | (simp; omega))) ?_
                    refine ExA.step1 2 (by kernel_rfl) rfl rfl (OpK.call (pc21 y (szCl_ok y (szCl x 1048576) (by omega) (by have := szCl_le x 1048576 (by omega); omega) hc2)) Try.func21 hP hnt rfl rfl (by decide) (by kernel_rfl) rfl (by simp [go_sem, eqCl_self]; exact .mk _ _) (by simp [go_sem, Vsle, Vle, ACsle, ACle, ACsle.refl, eqCl_self]) (by simp [go_sem, eqCl_self]) (by simp [go_sem, eqCl_self]; exact .mk _)) ?_
                    refine ExA.step1 3 (by kernel_rfl) rfl rfl (OpK.call (pc23 y y (szCl_ok y (szCl x 1048576) (by omega) (by have := szCl_le x 1048576 (by omega); omega) hc2)) Try.func23 hP hnt rfl rfl (by decide) (by kernel_rfl) rfl (by simp [go_sem, eqCl_self]; exact .mk _ _) (by simp [go_sem, Vsle, Vle, ACsle, ACle, ACsle.refl, eqCl_self]) (by simp [go_sem, eqCl_self]) (by simp [go_sem, eqCl_self]; exact .mk _)) ?_
                    refine ExA.step1 4 (by kernel_rfl) rfl rfl (OpK.st Hz hP hnt rfl (by decide) (by simp [go_sem, eqCl_self]; exact .mk _ _) (by first | exact True.intro | exact und9 | exact und4 | (unfold r64; omega) | omega | (simp; omega))) ?_
                    refine ExA.done (by kernel_rfl) ?_
                    refine Wp.condE (by simp [go_sem, eqCl_self]; exact .mk _ _ _) ?_ ?_
                    · intro hc5
                      simp [eqCl_self] at hc5
                    · intro hc5
                      try simp at hc5
                      refine Wp.skip ?_
                      refine Wp.seq ?_
                      refine Wp.regionE [0, 1, 2, 3, 4, 5, 6, 7, 8, 9] (by simp [trim]; exact .mk _) ?_
                      refine ExL.st Hz hP hnt rfl rfl (by decide) (by simp [go_sem, eqCl_self]; exact .mk _ _) (by first | exact True.intro | exact und9 | exact und4 | (unfold r64; omega) | omega | (simp; omega)) ?_
                      refine ExL.nil ?_
                      refine Wp.ret ?_
                      refine retQ.mk (by simp [go_sem, eqCl_self]; exact .mk _ _) ?_
                      simp [go_sem, Vsle, Vle, ACle]
                  · skip
                    refine ExA.step2 0 2 (by kernel_rfl) rfl rfl (OpK.st Hz hP hnt rfl (by decide) (by simp [go_sem, eqCl_self]; exact .mk _ _) (by first | exact True.intro | exact und9 | exact und4 | (unfold r64; omega) | omega | (simp; omega))) rfl rfl (OpK.call (pc21 y (szCl_ok y (szCl x 1048576) (by omega) (by have := szCl_le x 1048576 (by omega); omega) hc2)) Try.func21 hP hnt rfl rfl (by decide) (by kernel_rfl) rfl (by simp [go_sem, eqCl_self]; exact .mk _ _) (by simp [go_sem, Vsle, Vle, ACsle, ACle, ACsle.refl, eqCl_self]) (by simp [go_sem, eqCl_self]) (by simp [go_sem, eqCl_self]; exact .mk _)) ?_ ?_
                    · skip
                      refine ExA.step1 2 (by kernel_rfl) rfl rfl (OpK.call (pc21 y (szCl_ok y (szCl x 1048576) (by omega) (by have := szCl_le x 1048576 (by omega); omega) hc2)) Try.func21 hP hnt rfl rfl (by decide) (by kernel_rfl) rfl (by simp [go_sem, eqCl_self]; exact .mk _ _) (by simp [go_sem, Vsle, Vle, ACsle, ACle, ACsle.refl, eqCl_self]) (by simp [go_sem, eqCl_self]) (by simp [go_sem, eqCl_self]; exact .mk _)) ?_
                      refine ExA.step1 3 (by kernel_rfl) rfl rfl (OpK.call (pc23 y y (szCl_ok y (szCl x 1048576) (by omega) (by have := szCl_le x 1048576 (by omega); omega) hc2)) Try.func23 hP hnt rfl rfl (by decide) (by kernel_rfl) rfl (by simp [go_sem, eqCl_self]; exact .mk _ _) (by simp [go_sem, Vsle, Vle, ACsle, ACle, ACsle.refl, eqCl_self]) (by simp [go_sem, eqCl_self]) (by simp [go_sem, eqCl_self]; exact .mk _)) ?_
                      refine ExA.step1 4 (by kernel_rfl) rfl rfl (OpK.st Hz hP hnt rfl (by decide) (by simp [go_sem, eqCl_self]; exact .mk _ _) (by first | exact True.intro | exact und9 | exact und4 | (unfold r64; omega) | omega | (simp; omega))) ?_
                      refine ExA.done (by kernel_rfl) ?_
                      refine Wp.condE (by simp [go_sem, eqCl_self]; exact .mk _ _ _) ?_ ?_
                      · intro hc5
                        simp [eqCl_self] at hc5
                      · intro hc5
                        try simp at hc5
                        refine Wp.skip ?_
                        refine Wp.seq ?_
                        refine Wp.regionE [0, 1, 2, 3, 4, 5, 6, 7, 8, 9] (by simp [trim]; exact .mk _) ?_
                        refine ExL.st Hz hP hnt rfl rfl (by decide) (by simp [go_sem, eqCl_self]; exact .mk _ _) (by first | exact True.intro | exact und9 | exact und4 | (unfold r64; omega) | omega | (simp; omega)) ?_
                        refine ExL.nil ?_
                        refine Wp.ret ?_
                        refine retQ.mk (by simp [go_sem, eqCl_self]; exact .mk _ _) ?_
                        simp [go_sem, Vsle, Vle, ACle]
                    · skip
                      refine ExA.step1 0 (by kernel_rfl) rfl rfl (OpK.st Hz hP hnt rfl (by decide) (by simp [go_sem, eqCl_self]; exact .mk _ _) (by first | exact True.intro | exact und9 | exact und4 | (unfold r64; omega) | omega | (simp; omega))) ?_
                      refine ExA.step1 3 (by kernel_rfl) rfl rfl (OpK.call (pc23 y y (szCl_ok y (szCl x 1048576) (by omega) (by have := szCl_le x 1048576 (by omega); omega) hc2)) Try.func23 hP hnt rfl rfl (by decide) (by kernel_rfl) rfl (by simp [go_sem, eqCl_self]; exact .mk _ _) (by simp [go_sem, Vsle, Vle, ACsle, ACle, ACsle.refl, eqCl_self]) (by simp [go_sem, eqCl_self]) (by simp [go_sem, eqCl_self]; exact .mk _)) ?_
                      refine ExA.step1 4 (by kernel_rfl) rfl rfl (OpK.st Hz hP hnt rfl (by decide) (by simp [go_sem, eqCl_self]; exact .mk _ _) (by first | exact True.intro | exact und9 | exact und4 | (unfold r64; omega) | omega | (simp; omega))) ?_
                      refine ExA.done (by kernel_rfl) ?_
                      refine Wp.condE (by simp [go_sem, eqCl_self]; exact .mk _ _ _) ?_ ?_
                      · intro hc5
                        simp [eqCl_self] at hc5
                      · intro hc5
                        try simp at hc5
                        refine Wp.skip ?_
                        refine Wp.seq ?_
                        refine Wp.regionE [0, 1, 2, 3, 4, 5, 6, 7, 8, 9] (by simp [trim]; exact .mk _) ?_
                        refine ExL.st Hz hP hnt rfl rfl (by decide) (by simp [go_sem, eqCl_self]; exact .mk _ _) (by first | exact True.intro | exact und9 | exact und4 | (unfold r64; omega) | omega | (simp; omega)) ?_
                        refine ExL.nil ?_
                        refine Wp.ret ?_
                        refine retQ.mk (by simp [go_sem, eqCl_self]; exact .mk _ _) ?_
                        simp [go_sem, Vsle, Vle, ACle]
              · skip
                refine ExA.step1 0 (by kernel_rfl) rfl rfl (OpK.st Hz hP hnt rfl (by decide) (by simp [go_sem, eqCl_self]; exact .mk _ _) (by first | exact True.intro | exact und9 | exact und4 | (unfold r64; omega) | omega | (simp; omega))) ?_
                refine ExA.step1 3 (by kernel_rfl) rfl rfl (OpK.call (pc23 x x (szCl_ok x 1048576 (by omega) (by omega) hc1)) Try.func23 hP hnt rfl rfl (by decide) (by kernel_rfl) rfl (by simp [go_sem, eqCl_self]; exact .mk _ _) (by simp [go_sem, Vsle, Vle, ACsle, ACle, ACsle.refl, eqCl_self]) (by simp [go_sem, eqCl_self]) (by simp [go_sem, eqCl_self]; exact .mk _)) ?_
                refine ExA.step1 4 (by kernel_rfl) rfl rfl (OpK.st Hz hP hnt rfl (by decide) (by simp [go_sem, eqCl_self]; exact .mk _ _) (by first | exact True.intro | exact und9 | exact und4 | (unfold r64; omega) | omega | (simp; omega))) ?_
                refine ExA.done (by kernel_rfl) ?_
                refine Wp.condE (by simp [go_sem, eqCl_self]; exact .mk _ _ _) ?_ ?_
                · intro hc4
                  simp [eqCl_self] at hc4
                · intro hc4
                  try simp at hc4
                  refine Wp.skip ?_
                  refine Wp.seq ?_
                  refine Wp.seq ?_
                  refine Wp.any [0, 1, 2, 3, 4, 5, 6, 7, 8, 9] (by rw [hP]; exact mixed) rfl (by simp [trim]; exact .mk _) ?_
                  refine ExA.step2 0 1 (by kernel_rfl) rfl rfl (OpK.st Hz hP hnt rfl (by decide) (by simp [go_sem, eqCl_self]; exact .mk _ _) (by first | exact True.intro | exact und9 | exact und4 | (unfold r64; omega) | omega | (simp; omega))) rfl rfl (OpK.st Hz hP hnt rfl (by decide) (by simp [go_sem, eqCl_self]; exact .mk _ _) (by first | exact True.intro | exact und9 | exact und4 | (unfold r64; omega) | omega | (simp; omega))) ?_ ?_
                  · skip
                    refine ExA.step1 1 (by kernel_rfl) rfl rfl (OpK.st Hz hP hnt rfl (by decide) (by simp [go_sem, eqCl_self]; exact .mk _ _) (by first | exact True.intro | exact und9 | exact und4 | (unfold r64; omega) | omega | (simp; omega))) ?_
                    refine ExA.step1 2 (by kernel_rfl) rfl rfl (OpK.call (pc21 y (szCl_ok y (szCl x 1048576) (by omega) (by have := szCl_le x 1048576 (by omega); omega) hc2)) Try.func21 hP hnt rfl rfl (by decide) (by kernel_rfl) rfl (by simp [go_sem, eqCl_self]; exact .mk _ _) (by simp [go_sem, Vsle, Vle, ACsle, ACle, ACsle.refl, eqCl_self]) (by simp [go_sem, eqCl_self]) (by simp [go_sem, eqCl_self]; exact .mk _)) ?_
                    refine ExA.step1 3 (by kernel_rfl) rfl rfl (OpK.call (pc23 y y (szCl_ok y (szCl x 1048576) (by omega) (by have := szCl_le x 1048576 (by omega); omega) hc2)) Try.func23 hP hnt rfl rfl (by decide) (by kernel_rfl) rfl (by simp [go_sem, eqCl_self]; exact .mk _ _) (by simp [go_sem, Vsle, Vle, ACsle, ACle, ACsle.refl, eqCl_self]) (by simp [go_sem, eqCl_self]) (by simp [go_sem, eqCl_self]; exact .mk _)) ?_
                    refine ExA.step1 4 (by kernel_rfl) rfl rfl (OpK.st Hz hP hnt rfl (by decide) (by simp [go_sem, eqCl_self]; exact .mk _ _) (by first | exact True.intro | exact und9 | exact und4 | (unfold r64; omega) | omega | (simp; omega))) ?_
                    refine ExA.done (by kernel_rfl) ?_
                    refine Wp.condE (by simp [go_sem, eqCl_self]; exact .mk _ _ _) ?_ ?_
                    · intro hc5
                      simp [eqCl_self] at hc5
                    · intro hc5
                      try simp at hc5
                      refine Wp.skip ?_
                      refine Wp.seq ?_
                      refine Wp.regionE [0, 1, 2, 3, 4, 5, 6, 7, 8, 9] (by simp [trim]; exact .mk _) ?_
                      refine ExL.st Hz hP hnt rfl rfl (by decide) (by simp [go_sem, eqCl_self]; exact .mk _ _) (by first | exact True.intro | exact und9 | exact und4 | (unfold r64; omega) | omega | (simp; omega)) ?_
                      refine ExL.nil ?_
                      refine Wp.ret ?_
                      refine retQ.mk (by simp [go_sem, eqCl_self]; exact .mk _ _) ?_
                      simp [go_sem, Vsle, Vle, ACle]
                  · skip
                    refine ExA.step2 0 2 (by kernel_rfl) rfl rfl (OpK.st Hz hP hnt rfl (by decide) (by simp [go_sem, eqCl_self]; exact .mk _ _) (by first | exact True.intro | exact und9 | exact und4 | (unfold r64; omega) | omega | (simp; omega))) rfl rfl (OpK.call (pc21 y (szCl_ok y (szCl x 1048576) (by omega) (by have := szCl_le x 1048576 (by omega); omega) hc2)) Try.func21 hP hnt rfl rfl (by decide) (by kernel_rfl) rfl (by simp [go_sem, eqCl_self]; exact .mk _ _) (by simp [go_sem, Vsle, Vle, ACsle, ACle, ACsle.refl, eqCl_self]) (by simp [go_sem, eqCl_self]) (by simp [go_sem, eqCl_self]; exact .mk _)) ?_ ?_
                    · skip
                      refine ExA.step1 2 (by kernel_rfl) rfl rfl (OpK.call (pc21 y (szCl_ok y (szCl x 1048576) (by omega) (by have := szCl_le x 1048576 (by omega); omega) hc2)) Try.func21 hP hnt rfl rfl (by decide) (by kernel_rfl) rfl (by simp [go_sem, eqCl_self]; exact .mk _ _) (by simp [go_sem, Vsle, Vle, ACsle, ACle, ACsle.refl, eqCl_self]) (by simp [go_sem, eqCl_self]) (by simp [go_sem, eqCl_self]; exact .mk _)) ?_
                      refine ExA.step1 3 (by kernel_rfl) rfl rfl (OpK.call (pc23 y y (szCl_ok y (szCl x 1048576) (by omega) (by have := szCl_le x 1048576 (by omega); omega) hc2)) Try.func23 hP hnt rfl rfl (by decide) (by kernel_rfl) rfl (by simp [go_sem, eqCl_self]; exact .mk _ _) (by simp [go_sem, Vsle, Vle, ACsle, ACle, ACsle.refl, eqCl_self]) (by simp [go_sem, eqCl_self]) (by simp [go_sem, eqCl_self]; exact .mk _)) ?_
                      refine ExA.step1 4 (by kernel_rfl) rfl rfl (OpK.st Hz hP hnt rfl (by decide) (by simp [go_sem, eqCl_self]; exact .mk _ _) (by first | exact True.intro | exact und9 | exact und4 | (unfold r64; omega) | omega | (simp; omega))) ?_
                      refine ExA.done (by kernel_rfl) ?_
                      refine Wp.condE (by simp [go_sem, eqCl_self]; exact .mk _ _ _) ?_ ?_
                      · intro hc5
                        simp [eqCl_self] at hc5
                      · intro hc5
                        try simp at hc5
                        refine Wp.skip ?_
                        refine Wp.seq ?_
                        refine Wp.regionE [0, 1, 2, 3, 4, 5, 6, 7, 8, 9] (by simp [trim]; exact .mk _) ?_
                        refine ExL.st Hz hP hnt rfl rfl (by decide) (by simp [go_sem, eqCl_self]; exact .mk _ _) (by first | exact True.intro | exact und9 | exact und4 | (unfold r64; omega) | omega | (simp; omega)) ?_
                        refine ExL.nil ?_
                        refine Wp.ret ?_
                        refine retQ.mk (by simp [go_sem, eqCl_self]; exact .mk _ _) ?_
                        simp [go_sem, Vsle, Vle, ACle]
                    · skip
                      refine ExA.step1 0 (by kernel_rfl) rfl rfl (OpK.st Hz hP hnt rfl (by decide) (by simp [go_sem, eqCl_self]; exact .mk _ _) (by first | exact True.intro | exact und9 | exact und4 | (unfold r64; omega) | omega | (simp; omega))) ?_
                      refine ExA.step1 3 (by kernel_rfl) rfl rfl (OpK.call (pc23 y y (szCl_ok y (szCl x 1048576) (by omega) (by have := szCl_le x 1048576 (by omega); omega) hc2)) Try.func23 hP hnt rfl rfl (by decide) (by kernel_rfl) rfl (by simp [go_sem, eqCl_self]; exact .mk _ _) (by simp [go_sem, Vsle, Vle, ACsle, ACle, ACsle.refl, eqCl_self]) (by simp [go_sem, eqCl_self]) (by simp [go_sem, eqCl_self]; exact .mk _)) ?_
                      refine ExA.step1 4 (by kernel_rfl) rfl rfl (OpK.st Hz hP hnt rfl (by decide) (by simp [go_sem, eqCl_self]; exact .mk _ _) (by first | exact True.intro | exact und9 | exact und4 | (unfold r64; omega) | omega | (simp; omega))) ?_
                      refine ExA.done (by kernel_rfl) ?_
                      refine Wp.condE (by simp [go_sem, eqCl_self]; exact .mk _ _ _) ?_ ?_
                      · intro hc5
                        simp [eqCl_self] at hc5
                      · intro hc5
                        try simp at hc5
                        refine Wp.skip ?_
                        refine Wp.seq ?_
                        refine Wp.regionE [0, 1, 2, 3, 4, 5, 6, 7, 8, 9] (by simp [trim]; exact .mk _) ?_
                        refine ExL.st Hz hP hnt rfl rfl (by decide) (by simp [go_sem, eqCl_self]; exact .mk _ _) (by first | exact True.intro | exact und9 | exact und4 | (unfold r64; omega) | omega | (simp; omega)) ?_
                        refine ExL.nil ?_
                        refine Wp.ret ?_
                        refine retQ.mk (by simp [go_sem, eqCl_self]; exact .mk _ _) ?_
                        simp [go_sem, Vsle, Vle, ACle]
        · skip
          refine ExA.step1 1 (by kernel_rfl) rfl rfl (OpK.call (pc21 x (szCl_ok x 1048576 (by omega) (by omega) hc1)) Try.func21 hP hnt rfl rfl (by decide) (by kernel_rfl) rfl (by simp [go_sem, eqCl_self]; exact .mk _ _) (by simp [go_sem, Vsle, Vle, ACsle, ACle, ACsle.refl, eqCl_self]) (by simp [go_sem, eqCl_self]) (by simp [go_sem, eqCl_self]; exact .mk _)) ?_
          refine ExA.step1 3 (by kernel_rfl) rfl rfl (OpK.call (pc21 y (szCl_ok y (szCl x 1048576) (by omega) (by have := szCl_le x 1048576 (by omega); omega) hc2)) Try.func21 hP hnt rfl rfl (by decide) (by kernel_rfl) rfl (by simp [go_sem, eqCl_self]; exact .mk _ _) (by simp [go_sem, Vsle, Vle, ACsle, ACle, ACsle.refl, eqCl_self]) (by simp [go_sem, eqCl_self]) (by simp [go_sem, eqCl_self]; exact .mk _)) ?_
          refine ExA.step1 4 (by kernel_rfl) rfl rfl (OpK.call (pc20 x y (szCl_ok x 1048576 (by omega) (by omega) hc1)) Try.func20 hP hnt rfl rfl (by decide) (by kernel_rfl) rfl (by simp [go_sem, eqCl_self]; exact .mk _ _) (by simp [go_sem, Vsle, Vle, ACsle, ACle, ACsle.refl, eqCl_self]) (by simp [go_sem, eqCl_self]) (by simp [go_sem, eqCl_self]; exact .mk _)) ?_
          refine ExA.step1 5 (by kernel_rfl) rfl rfl (OpK.st Hz hP hnt rfl (by decide) (by simp [go_sem, eqCl_self]; exact .mk _ _) (by first | exact True.intro | exact und9 | exact und4 | (unfold r64; omega) | omega | (simp; omega))) ?_
          refine ExA.done (by kernel_rfl) ?_
          refine Wp.seq ?_
          refine Wp.regionE [0, 1, 2, 3, 4, 5, 6, 7, 8, 9] (by simp [trim]; exact .mk _) ?_
          refine ExL.st Hz hP hnt rfl rfl (by decide) (by simp [go_sem, eqCl_self]; exact .mk _ _) (by first | exact True.intro | exact und9 | exact und4 | (unfold r64; omega) | omega | (simp; omega)) ?_
          refine ExL.call (pc21 x (szCl_ok x 1048576 (by omega) (by omega) hc1)) Try.func21 hP hnt rfl rfl rfl (by decide) (by kernel_rfl) rfl (by simp [go_sem, eqCl_self]; exact .mk _ _) (by simp [go_sem, Vsle, Vle, ACsle, ACle, ACsle.refl, eqCl_self]) (by simp [go_sem, eqCl_self]) ?_
          refine ExL.ef Hz hP hnt hnp rfl (by decide) (by simp [go_sem, eqCl_self]; exact .mk _ _) trivial ?_
          refine ExL.ef Hz hP hnt hnp rfl (by decide) (by simp [go_sem, eqCl_self]; exact .mk _ _) trivial ?_
          refine ExL.nil ?_
          refine Wp.seq ?_
          refine Wp.regionE [0, 1, 2, 3, 4, 5, 6, 7, 8, 9] (by simp [trim]; exact .mk _) ?_
          refine ExL.st Hz hP hnt rfl rfl (by decide) (by simp [go_sem, eqCl_self]; exact .mk _ _) (by first | exact True.intro | exact und9 | exact und4 | (unfold r64; omega) | omega | (simp; omega)) ?_
          refine ExL.call (pc21 y (szCl_ok y (szCl x 1048576) (by omega) (by have := szCl_le x 1048576 (by omega); omega) hc2)) Try.func21 hP hnt rfl rfl rfl (by decide) (by kernel_rfl) rfl (by simp [go_sem, eqCl_self]; exact .mk _ _) (by simp [go_sem, Vsle, Vle, ACsle, ACle, ACsle.refl, eqCl_self]) (by simp [go_sem, eqCl_self]) ?_
          refine ExL.ef Hz hP hnt hnp rfl (by decide) (by simp [go_sem, eqCl_self]; exact .mk _ _) trivial ?_
          refine ExL.ef Hz hP hnt hnp rfl (by decide) (by simp [go_sem, eqCl_self]; exact .mk _ _) trivial ?_
          refine ExL.nil ?_
          refine Wp.seq ?_
          refine Wp.regionE [0, 1, 2, 3, 4, 5, 6, 7, 8, 9] (by simp [trim]; exact .mk _) ?_
          refine ExL.st Hz hP hnt rfl rfl (by decide) (by simp [go_sem, eqCl_self]; exact .mk _ _) (by first | exact True.intro | exact und9 | exact und4 | (unfold r64; omega) | omega | (simp; omega)) ?_
          refine ExL.st Hz hP hnt rfl rfl (by decide) (by simp [go_sem, eqCl_self]; exact .mk _ _) (by first | exact True.intro | exact und9 | exact und4 | (unfold r64; omega) | omega | (simp; omega)) ?_
          refine ExL.call (pc22 x y (szCl_ok x 1048576 (by omega) (by omega) hc1)) Try.func22 hP hnt rfl rfl rfl (by decide) (by kernel_rfl) rfl (by simp [go_sem, eqCl_self]; exact .mk _ _) (by simp [go_sem, Vsle, Vle, ACsle, ACle, ACsle.refl, eqCl_self]) (by simp [go_sem, eqCl_self]) ?_
          refine ExL.st Hz hP hnt rfl rfl (by decide) (by simp [go_sem, eqCl_self]; exact .mk _ _) (by first | exact True.intro | exact und9 | exact und4 | (unfold r64; omega) | omega | (simp; omega)) ?_
          refine ExL.nil ?_
          refine Wp.seq ?_
          refine Wp.seq ?_
          refine Wp.regionE [0, 1, 2, 3, 4, 5, 6, 7, 8, 9] (by simp [trim]; exact .mk _) ?_
          refine ExL.st Hz hP hnt rfl rfl (by decide) (by simp [go_sem, eqCl_self]; exact .mk _ _) (by first | exact True.intro | exact und9 | exact und4 | (unfold r64; omega) | omega | (simp; omega)) ?_
          refine ExL.st Hz hP hnt rfl rfl (by decide) (by simp [go_sem, eqCl_self]; exact .mk _ _) (by first | exact True.intro | exact und9 | exact und4 | (unfold r64; omega) | omega | (simp; omega)) ?_
          refine ExL.st Hz hP hnt rfl rfl (by decide) (by simp [go_sem, eqCl_self]; exact .mk _ _) (by first | exact True.intro | exact und9 | exact und4 | (unfold r64; omega) | omega | (simp; omega)) ?_
          refine ExL.nil ?_
          refine Wp.condE (by simp [go_sem, eqCl_self]; exact .mk _ _ _) ?_ ?_
          · intro hc3
            simp [eqCl_self] at hc3
          · intro hc3
            try simp at hc3
            refine Wp.skip ?_
            refine Wp.seq ?_
            refine Wp.seq ?_
            refine Wp.any [0, 1, 2, 3, 4, 5, 6, 7, 8, 9] (by rw [hP]; exact mixed) rfl (by simp [trim]; exact .mk _) ?_
            refine ExA.step2 0 1 (by kernel_rfl) rfl rfl (OpK.st Hz hP hnt rfl (by decide) (by simp [go_sem, eqCl_self]; exact .mk _ _) (by first | exact True.intro | exact und9 | exact und4 | (unfold r64; omega) | omega | (simp; omega))) rfl rfl (OpK.st Hz hP hnt rfl (by decide) (by simp [go_sem, eqCl_self]; exact .mk _ _) (by first | exact True.intro | exact und9 | exact und4 | (unfold r64; omega) | omega | (simp; omega))) ?_ ?_
            · skip
              refine ExA.step1 1 (by kernel_rfl) rfl rfl (OpK.st Hz hP hnt rfl (by decide) (by simp [go_sem, eqCl_self]; exact .mk _ _) (by first | exact True.intro | exact und9 | exact und4 | (unfold r64; omega) | omega | (simp; omega))) ?_
              refine ExA.step1 2 (by kernel_rfl) rfl rfl (OpK.call (pc21 x (szCl_ok x 1048576 (by omega) (by omega) hc1)) Try.func21 hP hnt rfl rfl (by decide) (by kernel_rfl) rfl (by simp [go_sem, eqCl_self]; exact .mk _ _) (by simp [go_sem, Vsle, Vle, ACsle, ACle, ACsle.refl, eqCl_self]) (by simp [go_sem, eqCl_self]) (by simp [go_sem, eqCl_self]; exact .mk _)) ?_
              refine ExA.step1 3 (by kernel_rfl) rfl rfl (OpK.call (pc23 x x (szCl_ok x 1048576 (by omega) (by omega) hc1)) Try.func23 hP hnt rfl rfl (by decide) (by kernel_rfl) rfl (by simp [go_sem, eqCl_self]; exact .mk _ _) (by simp [go_sem, Vsle, Vle, ACsle, ACle, ACsle.refl, eqCl_self]) (by simp [go_sem, eqCl_self]) (by simp [go_sem, eqCl_self]; exact .mk _)) ?_
              refine ExA.step1 4 (by kernel_rfl) rfl rfl (OpK.st Hz hP hnt rfl (by decide) (by simp [go_sem, eqCl_self]; exact .mk _ _) (by first | exact True.intro | exact und9 | exact und4 | (unfold r64; omega) | omega | (simp; omega))) ?_
              refine ExA.done (by kernel_rfl) ?_
              refine Wp.condE (by simp [go_sem, eqCl_self]; exact .mk _ _ _) ?_ ?_
              · intro hc4
                simp [eqCl_self] at hc4
              · intro hc4
                try simp at hc4
                refine Wp.skip ?_
                refine Wp.seq ?_
                refine Wp.seq ?_
                refine Wp.any [0, 1, 2, 3, 4, 5, 6, 7, 8, 9] (by rw [hP]; exact mixed) rfl (by simp [trim]; exact .mk _) ?_
                refine ExA.step2 0 1 (by kernel_rfl) rfl rfl (OpK.st Hz hP hnt rfl (by decide) (by simp [go_sem, eqCl_self]; exact .mk _ _) (by first | exact True.intro | exact und9 | exact und4 | (unfold r64; omega) | omega | (simp; omega))) rfl rfl (OpK.st Hz hP hnt rfl (by decide) (by simp [go_sem, eqCl_self]; exact .mk _ _) (by first | exact True.intro | exact und9 | exact und4 | (unfold r64; omega) | omega | (simp; omega))) ?_ ?_
                · skip
                  refine ExA.step1 1 (by kernel_rfl) rfl rfl (OpK.st Hz hP hnt rfl (by decide) (by simp [go_sem, eqCl_self]; exact .mk _ _) (by first | exact True.intro | exact und9 | exact und4 | (unfold r64; omega) | omega | (simp; omega))) ?_
                  refine ExA.step1 2 (by kernel_rfl) rfl rfl (OpK.call (pc21 y (szCl_ok y (szCl x 1048576) (by omega) (by have := szCl_le x 1048576 (by omega); omega) hc2)) Try.func21 hP hnt rfl rfl (by decide) (by kernel_rfl) rfl (by simp [go_sem, eqCl_self]; exact .mk _ _) (by simp [go_sem, Vsle, Vle, ACsle, ACle, ACsle.refl, eqCl_self]) (by simp [go_sem, eqCl_self]) (by simp [go_sem, eqCl_self]; exact .mk _)) ?_
                  refine ExA.step1 3 (by kernel_rfl) rfl rfl (OpK.call (pc23 y y (szCl_ok y (szCl x 1048576) (by omega) (by have := szCl_le x 1048576 (by omega); omega) hc2)) Try.func23 hP hnt rfl rfl (by decide) (by kernel_rfl) rfl (by simp [go_sem, eqCl_self]; exact .mk _ _) (by simp [go_sem, Vsle, Vle, ACsle, ACle, ACsle.refl, eqCl_self]) (by simp [go_sem, eqCl_self]) (by simp [go_sem, eqCl_self]; exact .mk _)) ?_
                  refine ExA.step1 4 (by kernel_rfl) rfl rfl (OpK.st Hz hP hnt rfl (by decide) (by simp [go_sem, eqCl_self]; exact .mk _ _) (by first | exact True.intro | exact und9 | exact und4 | (unfold r64; omega) | omega | (simp; omega))) ?_
                  refine ExA.done (by kernel_rfl) ?_
                  refine Wp.condE (by simp [go_sem, eqCl_self]; exact .mk _ _ _) ?_ ?_
                  · intro hc5
                    simp [eqCl_self] at hc5
                  · intro hc5
                    try simp at hc5
                    refine Wp.skip ?_
                    refine Wp.seq ?_
                    refine Wp.regionE [0, 1, 2, 3, 4, 5, 6, 7, 8, 9] (by simp [trim]; exact .mk _) ?_
                    refine ExL.st Hz hP hnt rfl rfl (by decide) (by simp [go_sem, eqCl_self]; exact .mk _ _) (by first | exact True.intro | exact und9 | exact und4 | (unfold r64; omega) | omega | (simp; omega)) ?_
                    refine ExL.nil ?_
                    refine Wp.ret ?_
                    refine retQ.mk (by simp [go_sem, eqCl_self]; exact .mk _ _) ?_
                    simp [go_sem, Vsle, Vle, ACle]
                · skip
                  refine ExA.step2 0 2 (by kernel_rfl) rfl rfl (OpK.st Hz hP hnt rfl (by decide) (by simp [go_sem, eqCl_self]; exact .mk _ _) (by first | exact True.intro | exact und9 | exact und4 | (unfold r64; omega) | omega | (simp; omega))) rfl rfl (OpK.call (pc21 y (szCl_ok y (szCl x 1048576) (by omega) (by have := szCl_le x 1048576 (by omega); omega) hc2)) Try.func21 hP hnt rfl rfl (by decide) (by kernel_rfl) rfl (by simp [go_sem, eqCl_self]; exact .mk _ _) (by simp [go_sem, Vsle, Vle, ACsle, ACle, ACsle.refl, eqCl_self]) (by simp [go_sem, eqCl_self]) (by simp [go_sem, eqCl_self]; exact .mk _)) ?_ ?_
                  · skip
                    refine ExA.step1 2 (by kernel_rfl) rfl rfl (OpK.call (pc21 y (szCl_ok y (szCl x 1048576) (by omega) (by have := szCl_le x 1048576 (by omega); omega) hc2)) Try.func21 hP hnt rfl rfl (by decide) (by kernel_rfl) rfl (by simp [go_sem, eqCl_self]; exact .mk _ _) (by simp [go_sem, Vsle, Vle, ACsle, ACle, ACsle.refl, eqCl_self]) (by simp [go_sem, eqCl_self]) (by simp [go_sem, eqCl_self]; exact .mk _)) ?_
                    refine ExA.step1 3 (by kernel_rfl) rfl rfl (OpK.call (pc23 y y (szCl_ok y (szCl x 1048576) (by omega) (by have := szCl_le x 1048576 (by omega); omega) hc2)) Try.func23 hP hnt rfl rfl (by decide) (by kernel_rfl) rfl (by simp [go_sem, eqCl_self]; exact .mk _ _) (by simp [go_sem, Vsle, Vle, ACsle, ACle, ACsle.refl, eqCl_self]) (by simp [go_sem, eqCl_self]) (by simp [go_sem, eqCl_self]; exact .mk _)) ?_
                    refine ExA.step1 4 (by kernel_rfl) rfl rfl (OpK.st Hz hP hnt rfl (by decide) (by simp [go_sem, eqCl_self]; exact .mk _ _) (by first | exact True.intro | exact und9 | exact und4 | (unfold r64; omega) | omega | (simp; omega))) ?_
                    refine ExA.done (by kernel_rfl) ?_
                    refine Wp.condE (by simp [go_sem, eqCl_self]; exact .mk _ _ _) ?_ ?_
                    · intro hc5
                      simp [eqCl_self] at hc5
                    · intro hc5
                      try simp at hc5
                      refine Wp.skip ?_
                      refine Wp.seq ?_
                      refine Wp.regionE [0, 1, 2, 3, 4, 5, 6, 7, 8, 9] (by simp [trim]; exact .mk _) ?_
                      refine ExL.st Hz hP hnt rfl rfl (by decide) (by simp [go_sem, eqCl_self]; exact .mk _ _) (by first | exact True.intro | exact und9 | exact und4 | (unfold r64; omega) | omega | (simp; omega)) ?_
                      refine ExL.nil ?_
                      refine Wp.ret ?_
                      refine retQ.mk (by simp [go_sem, eqCl_self]; exact .mk _ _) ?_
                      simp [go_sem, Vsle, Vle, ACle]
                  · skip
                    refine ExA.step1 0 (by kernel_rfl) rfl rfl (OpK.st Hz hP hnt rfl (by decide) (by simp [go_sem, eqCl_self]; exact .mk _ _) (by first | exact True.intro | exact und9 | exact und4 | (unfold r64; omega) | omega | (simp; omega))) ?_
                    refine ExA.step1 3 (by kernel_rfl) rfl rfl (OpK.call (pc23 y y (szCl_ok y (szCl x 1048576) (by omega) (by have := szCl_le x 1048576 (by omega); omega) hc2)) Try.func23 hP hnt rfl rfl (by decide) (by kernel_rfl) rfl (by simp [go_sem, eqCl_self]; exact .mk _ _) (by simp [go_sem, Vsle, Vle, ACsle, ACle, ACsle.refl, eqCl_self]) (by simp [go_sem, eqCl_self]) (by simp [go_sem, eqCl_self]; exact .mk _)) ?_
                    refine ExA.step1 4 (by kernel_rfl) rfl rfl (OpK.st Hz hP hnt rfl (by decide) (by simp [go_sem, eqCl_self]; exact .mk _ _) (by first | exact True.intro | exact und9 | exact und4 | (unfold r64; omega) | omega | (simp; omega))) ?_
                    refine ExA.done (by kernel_rfl) ?_
                    refine Wp.condE (by simp [go_sem, eqCl_self]; exact .mk _ _ _) ?_ ?_
                    · intro hc5
                      simp [eqCl_self] at hc5
                    · intro hc5
                      try simp at hc5
                      refine Wp.skip ?_
                      refine Wp.seq ?_
                      refine Wp.regionE [0, 1, 2, 3, 4, 5, 6, 7, 8, 9] (by simp [trim]; exact .mk _) ?_
                      refine ExL.st Hz hP hnt rfl rfl (by decide) (by simp [go_sem, eqCl_self]; exact .mk _ _) (by first | exact True.intro | exact und9 | exact und4 | (unfold r64; omega) | omega | (simp; omega)) ?_
                      refine ExL.nil ?_
                      refine Wp.ret ?_
                      refine retQ.mk (by simp [go_sem, eqCl_self]; exact .mk _ _) ?_
                      simp [go_sem, Vsle, Vle, ACle]
            · skip
              refine ExA.step2 0 2 (by kernel_rfl) rfl rfl (OpK.st Hz hP hnt rfl (by decide) (by simp [go_sem, eqCl_self]; exact .mk _ _) (by first | exact True.intro | exact und9 | exact und4 | (unfold r64; omega) | omega | (simp; omega))) rfl rfl (OpK.call (pc21 x (szCl_ok x 1048576 (by omega) (by omega) hc1)) Try.func21 hP hnt rfl rfl (by decide) (by kernel_rfl) rfl (by simp [go_sem, eqCl_self]; exact .mk _ _) (by simp [go_sem, Vsle, Vle, ACsle, ACle, ACsle.refl, eqCl_self]) (by simp [go_sem, eqCl_self]) (by simp [go_sem, eqCl_self]; exact .mk _)) ?_ ?_
              · skip
                refine ExA.step1 2 (by kernel_rfl) rfl rfl (OpK.call (pc21 x (szCl_ok x 1048576 (by omega) (by omega) hc1)) Try.func21 hP hnt rfl rfl (by decide) (by kernel_rfl) rfl (by simp [go_sem, eqCl_self]; exact .mk _ _) (by simp [go_sem, Vsle, Vle, ACsle, ACle, ACsle.refl, eqCl_self]) (by simp [go_sem, eqCl_self]) (by simp [go_sem, eqCl_self]; exact .mk _)) ?_
                refine ExA.step1 3 (by kernel_rfl) rfl rfl (OpK.call (pc23 x x (szCl_ok x 1048576 (by omega) (by omega) hc1)) Try.func23 hP hnt rfl rfl (by decide) (by kernel_rfl) rfl (by simp [go_sem, eqCl_self]; exact .mk _ _) (by simp [go_sem, Vsle, Vle, ACsle, ACle, ACsle.refl, eqCl_self]) (by simp [go_sem, eqCl_self]) (by simp [go_sem, eqCl_self]; exact .mk _)) ?_
                refine ExA.step1 4 (by kernel_rfl) rfl rfl (OpK.st Hz hP hnt rfl (by decide) (by simp [go_sem, eqCl_self]; exact .mk _ _) (by first | exact True.intro | exact und9 | exact und4 | (unfold r64; omega) | omega | (simp; omega))) ?_
                refine ExA.done (by kernel_rfl) ?_
                refine Wp.condE (by simp [go_sem, eqCl_self]; exact .mk _ _ _) ?_ ?_
                · intro hc4
                  simp [eqCl_self] at hc4
                · intro hc4
                  try simp at hc4
                  refine Wp.skip ?_
                  refine Wp.seq ?_
                  refine Wp.seq ?_
                  refine Wp.any [0, 1, 2, 3, 4, 5, 6, 7, 8, 9] (by rw [hP]; exact mixed) rfl (by simp [trim]; exact .mk _) ?_
                  refine ExA.step2 0 1 (by kernel_rfl) rfl rfl (OpK.st Hz hP hnt rfl (by decide) (by simp [go_sem, eqCl_self]; exact .mk _ _) (by first | exact True.intro | exact und9 | exact und4 | (unfold r64; omega) | omega | (simp; omega))) rfl rfl (OpK.st Hz hP hnt rfl (by decide) (by simp [go_sem, eqCl_self]; exact .mk _ _) (by first | exact True.intro | exact und9 | exact und4 | (unfold r64; omega) | omega | (simp; omega))) ?_ ?_
                  · skip
                    refine ExA.step1 1 (by kernel_rfl) rfl rfl (OpK.st Hz hP hnt rfl (by decide) (by simp [go_sem, eqCl_self]; exact .mk _ _) (by first | exact True.intro | exact und9 | exact und4 | (unfold r64; omega) | omega | (simp; omega))) ?_
                    refine ExA.step1 2 (by kernel_rfl) rfl rfl (OpK.call (pc21 y (szCl_ok y (szCl x 1048576) (by omega) (by have := szCl_le x 1048576 (by omega); omega) hc2)) Try.func21 hP hnt rfl rfl (by decide) (by kernel_rfl) rfl (by simp [go_sem, eqCl_self]; exact .mk _ _) (by simp [go_sem, Vsle, Vle, ACsle, ACle, ACsle.refl, eqCl_self]) (by simp [go_sem, eqCl_self]) (by simp [go_sem, eqCl_self]; exact .mk _)) ?_
                    refine ExA.step1 3 (by kernel_rfl) rfl rfl (OpK.call (pc23 y y (szCl_ok y (szCl x 1048576) (by omega) (by have := szCl_le x 1048576 (by omega); omega) hc2)) Try.func23 hP hnt rfl rfl (by decide) (by kernel_rfl) rfl (by simp [go_sem, eqCl_self]; exact .mk _ _) (by simp [go_sem, Vsle, Vle, ACsle, ACle, ACsle.refl, eqCl_self]) (by simp [go_sem, eqCl_self]) (by simp [go_sem, eqCl_self]; exact .mk _)) ?_
                    refine ExA.step1 4 (by kernel_rfl) rfl rfl (OpK.st Hz hP hnt rfl (by decide) (by simp [go_sem, eqCl_self]; exact .mk _ _) (by first | exact True.intro | exact und9 | exact und4 | (unfold r64; omega) | omega | (simp; omega))) ?_
                    refine ExA.done (by kernel_rfl) ?_
                    refine Wp.condE (by simp [go_sem, eqCl_self]; exact .mk _ _ _) ?_ ?_
                    · intro hc5
                      simp [eqCl_self] at hc5
                    · intro hc5
                      try simp at hc5
                      refine Wp.skip ?_
                      refine Wp.seq ?_
                      refine Wp.regionE [0, 1, 2, 3, 4, 5, 6, 7, 8, 9] (by simp [trim]; exact .mk _) ?_
                      refine ExL.st Hz hP hnt rfl rfl (by decide) (by simp [go_sem, eqCl_self]; exact .mk _ _) (by first | exact True.intro | exact und9 | exact und4 | (unfold r64; omega) | omega | (simp; omega)) ?_
                      refine ExL.nil ?_
                      refine Wp.ret ?_
                      refine retQ.mk (by simp [go_sem, eqCl_self]; exact .mk _ _) ?_
                      simp [go_sem, Vsle, Vle, ACle]
                  · skip
                    refine ExA.step2 0 2 (by kernel_rfl) rfl rfl (OpK.st Hz hP hnt rfl (by decide) (by simp [go_sem, eqCl_self]; exact .mk _ _) (by first | exact True.intro | exact und9 | exact und4 | (unfold r64; omega) | omega | (simp; omega))) rfl rfl (OpK.call (pc21 y (szCl_ok y (szCl x 1048576) (by omega) (by have := szCl_le x 1048576 (by omega); omega) hc2)) Try.func21 hP hnt rfl rfl (by decide) (by kernel_rfl) rfl (by simp [go_sem, eqCl_self]; exact .mk _ _) (by simp [go_sem, Vsle, Vle, ACsle, ACle, ACsle.refl, eqCl_self]) (by simp [go_sem, eqCl_self]) (by simp [go_sem, eqCl_self]; exact .mk _)) ?_ ?_
                    · skip
                      refine ExA.step1 2 (by kernel_rfl) rfl rfl (OpK.call (pc21 y (szCl_ok y (szCl x 1048576) (by omega) (by have := szCl_le x 1048576 (by omega); omega) hc2)) Try.func21 hP hnt rfl rfl (by decide) (by kernel_rfl) rfl (by simp [go_sem, eqCl_self]; exact .mk _ _) (by simp [go_sem, Vsle, Vle, ACsle, ACle, ACsle.refl, eqCl_self]) (by simp [go_sem, eqCl_self]) (by simp [go_sem, eqCl_self]; exact .mk _)) ?_
                      refine ExA.step1 3 (by kernel_rfl) rfl rfl (OpK.call (pc23 y y (szCl_ok y (szCl x 1048576) (by omega) (by have := szCl_le x 1048576 (by omega); omega) hc2)) Try.func23 hP hnt rfl rfl (by decide) (by kernel_rfl) rfl (by simp [go_sem, eqCl_self]; exact .mk _ _) (by simp [go_sem, Vsle, Vle, ACsle, ACle, ACsle.refl, eqCl_self]) (by simp [go_sem, eqCl_self]) (by simp [go_sem, eqCl_self]; exact .mk _)) ?_
                      refine ExA.step1 4 (by kernel_rfl) rfl rfl (OpK.st Hz hP hnt rfl (by decide) (by simp [go_sem, eqCl_self]; exact .mk _ _) (by first | exact True.intro | exact und9 | exact und4 | (unfold r64; omega) | omega | (simp; omega))) ?_
                      refine ExA.done (by kernel_rfl) ?_
                      refine Wp.condE (by simp [go_sem, eqCl_self]; exact .mk _ _ _) ?_ ?_
                      · intro hc5
                        simp [eqCl_self] at hc5
                      · intro hc5
                        try simp at hc5
                        refine Wp.skip ?_
                        refine Wp.seq ?_
                        refine Wp.regionE [0, 1, 2, 3, 4, 5, 6, 7, 8, 9] (by simp [trim]; exact .mk _) ?_
                        refine ExL.st Hz hP hnt rfl rfl (by decide) (by simp [go_sem, eqCl_self]; exact .mk _ _) (by first | exact True.intro | exact und9 | exact und4 | (unfold r64; omega) | omega | (simp; omega)) ?_
                        refine ExL.nil ?_
                        refine Wp.ret ?_
                        refine retQ.mk (by simp [go_sem, eqCl_self]; exact .mk _ _) ?_
                        simp [go_sem, Vsle, Vle, ACle]
                    · skip
                      refine ExA.step1 0 (by kernel_rfl) rfl rfl (OpK.st Hz hP hnt rfl (by decide) (by simp [go_sem, eqCl_self]; exact .mk _ _) (by first | exact True.intro | exact und9 | exact und4 | (unfold r64; omega) | omega | (simp; omega))) ?_
                      refine ExA.step1 3 (by kernel_rfl) rfl rfl (OpK.call (pc23 y y (szCl_ok y (szCl x 1048576) (by omega) (by have := szCl_le x 1048576 (by omega); omega) hc2)) Try.func23 hP hnt rfl rfl (by decide) (by kernel_rfl) rfl (by simp [go_sem, eqCl_self]; exact .mk _ _) (by simp [go_sem, Vsle, Vle, ACsle, ACle, ACsle.refl, eqCl_self]) (by simp [go_sem, eqCl_self]) (by simp [go_sem, eqCl_self]; exact .mk _)) ?_
                      refine ExA.step1 4 (by kernel_rfl) rfl rfl (OpK.st Hz hP hnt rfl (by decide) (by simp [go_sem, eqCl_self]; exact .mk _ _) (by first | exact True.intro | exact und9 | exact und4 | (unfold r64; omega) | omega | (simp; omega))) ?_
                      refine ExA.done (by kernel_rfl) ?_
                      refine Wp.condE (by simp [go_sem, eqCl_self]; exact .mk _ _ _) ?_ ?_
                      · intro hc5
                        simp [eqCl_self] at hc5
                      · intro hc5
                        try simp at hc5
                        refine Wp.skip ?_
                        refine Wp.seq ?_
                        refine Wp.regionE [0, 1, 2, 3, 4, 5, 6, 7, 8, 9] (by simp [trim]; exact .mk _) ?_
                        refine ExL.st Hz hP hnt rfl rfl (by decide) (by simp [go_sem, eqCl_self]; exact .mk _ _) (by first | exact True.intro | exact und9 | exact und4 | (unfold r64; omega) | omega | (simp; omega)) ?_
                        refine ExL.nil ?_
                        refine Wp.ret ?_
                        refine retQ.mk (by simp [go_sem, eqCl_self]; exact .mk _ _) ?_
                        simp [go_sem, Vsle, Vle, ACle]
              · skip
                refine ExA.step1 0 (by kernel_rfl) rfl rfl (OpK.st Hz hP hnt rfl (by decide) (by simp [go_sem, eqCl_self]; exact .mk _ _) (by first | exact True.intro | exact und9 | exact und4 | (unfold r64; omega) | omega | (simp; omega))) ?_
                refine ExA.step1 3 (by kernel_rfl) rfl rfl (OpK.call (pc23 x x (szCl_ok x 1048576 (by omega) (by omega) hc1)) Try.func23 hP hnt rfl rfl (by decide) (by kernel_rfl) rfl (by simp [go_sem, eqCl_self]; exact .mk _ _) (by simp [go_sem, Vsle, Vle, ACsle, ACle, ACsle.refl, eqCl_self]) (by simp [go_sem, eqCl_self]) (by simp [go_sem, eqCl_self]; exact .mk _)) ?_
                refine ExA.step1 4 (by kernel_rfl) rfl rfl (OpK.st Hz hP hnt rfl (by decide) (by simp [go_sem, eqCl_self]; exact .mk _ _) (by first | exact True.intro | exact und9 | exact und4 | (unfold r64; omega) | omega | (simp; omega))) ?_
                refine ExA.done (by kernel_rfl) ?_
                refine Wp.condE (by simp [go_sem, eqCl_self]; exact .mk _ _ _) ?_ ?_
                · intro hc4
                  simp [eqCl_self] at hc4
                · intro hc4
                  try simp at hc4
                  refine Wp.skip ?_
                  refine Wp.seq ?_
                  refine Wp.seq ?_
                  refine Wp.any [0, 1, 2, 3, 4, 5, 6, 7, 8, 9] (by rw [hP]; exact mixed) rfl (by simp [trim]; exact .mk _) ?_
                  refine ExA.step2 0 1 (by kernel_rfl) rfl rfl (OpK.st Hz hP hnt rfl (by decide) (by simp [go_sem, eqCl_self]; exact .mk _ _) (by first | exact True.intro | exact und9 | exact und4 | (unfold r64; omega) | omega | (simp; omega))) rfl rfl (OpK.st Hz hP hnt rfl (by decide) (by simp [go_sem, eqCl_self]; exact .mk _ _) (by first | exact True.intro | exact und9 | exact und4 | (unfold r64; omega) | omega | (simp; omega))) ?_ ?_
                  · skip
                    refine ExA.step1 1 (by kernel_rfl) rfl rfl (OpK.st Hz hP hnt rfl (by decide) (by simp [go_sem, eqCl_self]; exact .mk _ _) (by first | exact True.intro | exact und9 | exact und4 | (unfold r64; omega) | omega | (simp; omega))) ?_
                    refine ExA.step1 2 (by kernel_rfl) rfl rfl (OpK.call (pc21 y (szCl_ok y (szCl x 1048576) (by omega) (by have := szCl_le x 1048576 (by omega); omega) hc2)) Try.func21 hP hnt rfl rfl (by decide) (by kernel_rfl) rfl (by simp [go_sem, eqCl_self]; exact .mk _ _) (by simp [go_sem, Vsle, Vle, ACsle, ACle, ACsle.refl, eqCl_self]) (by simp [go_sem, eqCl_self]) (by simp [go_sem, eqCl_self]; exact .mk _)) ?_
                    refine ExA.step1 3 (by kernel_rfl) rfl rfl (OpK.call (pc23 y y (szCl_ok y (szCl x 1048576) (by omega) (by have := szCl_le x 1048576 (by omega); omega) hc2)) Try.func23 hP hnt rfl rfl (by decide) (by kernel_rfl) rfl (by simp [go_sem, eqCl_self]; exact .mk _ _) (by simp [go_sem, Vsle, Vle, ACsle, ACle, ACsle.refl, eqCl_self]) (by simp [go_sem, eqCl_self]) (by simp [go_sem, eqCl_self]; exact .mk _)) ?_
                    refine ExA.step1 4 (by kernel_rfl) rfl rfl (OpK.st Hz hP hnt rfl (by decide) (by simp [go_sem, eqCl_self]; exact .mk _ _) (by first | exact True.intro | exact und9 | exact und4 | (unfold r64; omega) | omega | (simp; omega))) ?_
                    refine ExA.done (by kernel_rfl) ?_
                    refine Wp.condE (by simp [go_sem, eqCl_self]; exact .mk _ _ _) ?_ ?_
                    · intro hc5
                      simp [eqCl_self] at hc5
                    · intro hc5
                      try simp at hc5
                      refine Wp.skip ?_
                      refine Wp.seq ?_
                      refine Wp.regionE [0, 1, 2, 3, 4, 5, 6, 7, 8, 9] (by simp [trim]; exact .mk _) ?_
                      refine ExL.st Hz hP hnt rfl rfl (by decide) (by simp [go_sem, eqCl_self]; exact .mk _ _) (by first | exact True.intro | exact und9 | exact und4 | (unfold r64; omega) | omega | (simp; omega)) ?_
                      refine ExL.nil ?_
                      refine Wp.ret ?_
                      refine retQ.mk (by simp [go_sem, eqCl_self]; exact .mk _ _) ?_
                      simp [go_sem, Vsle, Vle, ACle]
                  · skip
                    refine ExA.step2 0 2 (by kernel_rfl) rfl rfl (OpK.st Hz hP hnt rfl (by decide) (by simp [go_sem, eqCl_self]; exact .mk _ _) (by first | exact True.intro | exact und9 | exact und4 | (unfold r64; omega) | omega | (simp; omega))) rfl rfl (OpK.call (pc21 y (szCl_ok y (szCl x 1048576) (by omega) (by have := szCl_le x 1048576 (by omega); omega) hc2)) Try.func21 hP hnt rfl rfl (by decide) (by kernel_rfl) rfl (by simp [go_sem, eqCl_self]; exact .mk _ _) (by simp [go_sem, Vsle, Vle, ACsle, ACle, ACsle.refl, eqCl_self]) (by simp [go_sem, eqCl_self]) (by simp [go_sem, eqCl_self]; exact .mk _)) ?_ ?_
                    · skip
                      refine ExA.step1 2 (by kernel_rfl) rfl rfl (OpK.call (pc21 y (szCl_ok y (szCl x 1048576) (by omega) (by have := szCl_le x 1048576 (by omega); omega) hc2)) Try.func21 hP hnt rfl rfl (by decide) (by kernel_rfl) rfl (by simp [go_sem, eqCl_self]; exact .mk _ _) (by simp [go_sem, Vsle, Vle, ACsle, ACle, ACsle.refl, eqCl_self]) (by simp [go_sem, eqCl_self]) (by simp [go_sem, eqCl_self]; exact .mk _)) ?_
                      refine ExA.step1 3 (by kernel_rfl) rfl rfl (OpK.call (pc23 y y (szCl_ok y (szCl x 1048576) (by omega) (by have := szCl_le x 1048576 (by omega); omega) hc2)) Try.func23 hP hnt rfl rfl (by decide) (by kernel_rfl) rfl (by simp [go_sem, eqCl_self]; exact .mk _ _) (by simp [go_sem, Vsle, Vle, ACsle, ACle, ACsle.refl, eqCl_self]) (by simp [go_sem, eqCl_self]) (by simp [go_sem, eqCl_self]; exact .mk _)) ?_
                      refine ExA.step1 4 (by kernel_rfl) rfl rfl (OpK.st Hz hP hnt rfl (by decide) (by simp [go_sem, eqCl_self]; exact .mk _ _) (by first | exact True.intro | exact und9 | exact und4 | (unfold r64; omega) | omega | (simp; omega))) ?_
                      refine ExA.done (by kernel_rfl) ?_
                      refine Wp.condE (by simp [go_sem, eqCl_self]; exact .mk _ _ _) ?_ ?_
                      · intro hc5
                        simp [eqCl_self] at hc5
                      · intro hc5
                        try simp at hc5
                        refine Wp.skip ?_
                        refine Wp.seq ?_
                        refine Wp.regionE [0, 1, 2, 3, 4, 5, 6, 7, 8, 9] (by simp [trim]; exact .mk _) ?_
                        refine ExL.st Hz hP hnt rfl rfl (by decide) (by simp [go_sem, eqCl_self]; exact .mk _ _) (by first | exact True.intro | exact und9 | exact und4 | (unfold r64; omega) | omega | (simp; omega)) ?_
                        refine ExL.nil ?_
                        refine Wp.ret ?_
                        refine retQ.mk (by simp [go_sem, eqCl_self]; exact .mk _ _) ?_
                        simp [go_sem, Vsle, Vle, ACle]
                    · skip
                      refine ExA.step1 0 (by kernel_rfl) rfl rfl (OpK.st Hz hP hnt rfl (by decide) (by simp [go_sem, eqCl_self]; exact .mk _ _) (by first | exact True.intro | exact und9 | exact und4 | (unfold r64; omega) | omega | (simp; omega))) ?_
                      refine ExA.step1 3 (by kernel_rfl) rfl rfl (OpK.call (pc23 y y (szCl_ok y (szCl x 1048576) (by omega) (by have := szCl_le x 1048576 (by omega); omega) hc2)) Try.func23 hP hnt rfl rfl (by decide) (by kernel_rfl) rfl (by simp [go_sem, eqCl_self]; exact .mk _ _) (by simp [go_sem, Vsle, Vle, ACsle, ACle, ACsle.refl, eqCl_self]) (by simp [go_sem, eqCl_self]) (by simp [go_sem, eqCl_self]; exact .mk _)) ?_
                      refine ExA.step1 4 (by kernel_rfl) rfl rfl (OpK.st Hz hP hnt rfl (by decide) (by simp [go_sem, eqCl_self]; exact .mk _ _) (by first | exact True.intro | exact und9 | exact und4 | (unfold r64; omega) | omega | (simp; omega))) ?_
                      refine ExA.done (by kernel_rfl) ?_
                      refine Wp.condE (by simp [go_sem, eqCl_self]; exact .mk _ _ _) ?_ ?_
                      · intro hc5
                        simp [eqCl_self] at hc5
                      · intro hc5
                        try simp at hc5
                        refine Wp.skip ?_
                        refine Wp.seq ?_
                        refine Wp.regionE [0, 1, 2, 3, 4, 5, 6, 7, 8, 9] (by simp [trim]; exact .mk _) ?_
                        refine ExL.st Hz hP hnt rfl rfl (by decide) (by simp [go_sem, eqCl_self]; exact .mk _ _) (by first | exact True.intro | exact und9 | exact und4 | (unfold r64; omega) | omega | (simp; omega)) ?_
                        refine ExL.nil ?_
                        refine Wp.ret ?_
                        refine retQ.mk (by simp [go_sem, eqCl_self]; exact .mk _ _) ?_
                        simp [go_sem, Vsle, Vle, ACle]
      · skip
        refine ExA.step1 0 (by kernel_rfl) rfl rfl (OpK.st Hz hP hnt rfl (by decide) (by simp [go_sem, eqCl_self]; exact .mk _ _) (by first | exact True.intro | exact und9 | exact und4 | (unfold r64; omega) | omega | (simp; omega))) ?_
        refine ExA.step1 1 (by kernel_rfl) rfl rfl (OpK.call (pc21 x (szCl_ok x 1048576 (by omega) (by omega) hc1)) Try.func21 hP hnt rfl rfl (by decide) (by kernel_rfl) rfl (by simp [go_sem, eqCl_self]; exact .mk _ _) (by simp [go_sem, Vsle, Vle, ACsle, ACle, ACsle.refl, eqCl_self]) (by simp [go_sem, eqCl_self]) (by simp [go_sem, eqCl_self]; exact .mk _)) ?_
        refine ExA.step1 3 (by kernel_rfl) rfl rfl (OpK.call (pc21 y (szCl_ok y (szCl x 1048576) (by omega) (by have := szCl_le x 1048576 (by omega); omega) hc2)) Try.func21 hP hnt rfl rfl (by decide) (by kernel_rfl) rfl (by simp [go_sem, eqCl_self]; exact .mk _ _) (by simp [go_sem, Vsle, Vle, ACsle, ACle, ACsle.refl, eqCl_self]) (by simp [go_sem, eqCl_self]) (by simp [go_sem, eqCl_self]; exact .mk _)) ?_
        refine ExA.step1 4 (by kernel_rfl) rfl rfl (OpK.call (pc20 x y (szCl_ok x 1048576 (by omega) (by omega) hc1)) Try.func20 hP hnt rfl rfl (by decide) (by kernel_rfl) rfl (by simp [go_sem, eqCl_self]; exact .mk _ _) (by simp [go_sem, Vsle, Vle, ACsle, ACle, ACsle.refl, eqCl_self]) (by simp [go_sem, eqCl_self]) (by simp [go_sem, eqCl_self]; exact .mk _)) ?_
        refine ExA.step1 5 (by kernel_rfl) rfl rfl (OpK.st Hz hP hnt rfl (by decide) (by simp [go_sem, eqCl_self]; exact .mk _ _) (by first | exact True.intro | exact und9 | exact und4 | (unfold r64; omega) | omega | (simp; omega))) ?_
        refine ExA.done (by kernel_rfl) ?_
        refine Wp.seq ?_
        refine Wp.regionE [0, 1, 2, 3, 4, 5, 6, 7, 8, 9] (by simp [trim]; exact .mk _) ?_
        refine ExL.st Hz hP hnt rfl rfl (by decide) (by simp [go_sem, eqCl_self]; exact .mk _ _) (by first | exact True.intro | exact und9 | exact und4 | (unfold r64; omega) | omega | (simp; omega)) ?_
        refine ExL.call (pc21 x (szCl_ok x 1048576 (by omega) (by omega) hc1)) Try.func21 hP hnt rfl rfl rfl (by decide) (by kernel_rfl) rfl (by simp [go_sem, eqCl_self]; exact .mk _ _) (by simp [go_sem, Vsle, Vle, ACsle, ACle, ACsle.refl, eqCl_self]) (by simp [go_sem, eqCl_self]) ?_
        refine ExL.ef Hz hP hnt hnp rfl (by decide) (by simp [go_sem, eqCl_self]; exact .mk _ _) trivial ?_
        refine ExL.ef Hz hP hnt hnp rfl (by decide) (by simp [go_sem, eqCl_self]; exact .mk _ _) trivial ?_
        refine ExL.nil ?_
        refine Wp.seq ?_
        refine Wp.regionE [0, 1, 2, 3, 4, 5, 6, 7, 8, 9] (by simp [trim]; exact .mk _) ?_
        refine ExL.st Hz hP hnt rfl rfl (by decide) (by simp [go_sem, eqCl_self]; exact .mk _ _) (by first | exact True.intro | exact und9 | exact und4 | (unfold r64; omega) | omega | (simp; omega)) ?_
        refine ExL.call (pc21 y (szCl_ok y (szCl x 1048576) (by omega) (by have := szCl_le x 1048576 (by omega); omega) hc2)) Try.func21 hP hnt rfl rfl rfl (by decide) (by kernel_rfl) rfl (by simp [go_sem, eqCl_self]; exact .mk _ _) (by simp [go_sem, Vsle, Vle, ACsle, ACle, ACsle.refl, eqCl_self]) (by simp [go_sem, eqCl_self]) ?_
        refine ExL.ef Hz hP hnt hnp rfl (by decide) (by simp [go_sem, eqCl_self]; exact .mk _ _) trivial ?_
        refine ExL.ef Hz hP hnt hnp rfl (by decide) (by simp [go_sem, eqCl_self]; exact .mk _ _) trivial ?_
        refine ExL.nil ?_
        refine Wp.seq ?_
        refine Wp.regionE [0, 1, 2, 3, 4, 5, 6, 7, 8, 9] (by simp [trim]; exact .mk _) ?_
        refine ExL.st Hz hP hnt rfl rfl (by decide) (by simp [go_sem, eqCl_self]; exact .mk _ _) (by first | exact True.intro | exact und9 | exact und4 | (unfold r64; omega) | omega | (simp; omega)) ?_
        refine ExL.st Hz hP hnt rfl rfl (by decide) (by simp [go_sem, eqCl_self]; exact .mk _ _) (by first | exact True.intro | exact und9 | exact und4 | (unfold r64; omega) | omega | (simp; omega)) ?_
        refine ExL.call (pc22 x y (szCl_ok x 1048576 (by omega) (by omega) hc1)) Try.func22 hP hnt rfl rfl rfl (by decide) (by kernel_rfl) rfl (by simp [go_sem, eqCl_self]; exact .mk _ _) (by simp [go_sem, Vsle, Vle, ACsle, ACle, ACsle.refl, eqCl_self]) (by simp [go_sem, eqCl_self]) ?_
        refine ExL.st Hz hP hnt rfl rfl (by decide) (by simp [go_sem, eqCl_self]; exact .mk _ _) (by first | exact True.intro | exact und9 | exact und4 | (unfold r64; omega) | omega | (simp; omega)) ?_
        refine ExL.nil ?_
        refine Wp.seq ?_
        refine Wp.seq ?_
        refine Wp.regionE [0, 1, 2, 3, 4, 5, 6, 7, 8, 9] (by simp [trim]; exact .mk _) ?_
        refine ExL.st Hz hP hnt rfl rfl (by decide) (by simp [go_sem, eqCl_self]; exact .mk _ _) (by first | exact True.intro | exact und9 | exact und4 | (unfold r64; omega) | omega | (simp; omega)) ?_
        refine ExL.st Hz hP hnt rfl rfl (by decide) (by simp [go_sem, eqCl_self]; exact .mk _ _) (by first | exact True.intro | exact und9 | exact und4 | (unfold r64; omega) | omega | (simp; omega)) ?_
        refine ExL.st Hz hP hnt rfl rfl (by decide) (by simp [go_sem, eqCl_self]; exact .mk _ _) (by first | exact True.intro | exact und9 | exact und4 | (unfold r64; omega) | omega | (simp; omega)) ?_
        refine ExL.nil ?_
        refine Wp.condE (by simp [go_sem, eqCl_self]; exact .mk _ _ _) ?_ ?_
        · intro hc3
          simp [eqCl_self] at hc3
        · intro hc3
          try simp at hc3
          refine Wp.skip ?_
          refine Wp.seq ?_
          refine Wp.seq ?_
          refine Wp.any [0, 1, 2, 3, 4, 5, 6, 7, 8, 9] (by rw [hP]; exact mixed) rfl (by simp [trim]; exact .mk _) ?_
          refine ExA.step2 0 1 (by kernel_rfl) rfl rfl (OpK.st Hz hP hnt rfl (by decide) (by simp [go_sem, eqCl_self]; exact .mk _ _) (by first | exact True.intro | exact und9 | exact und4 | (unfold r64; omega) | omega | (simp; omega))) rfl rfl (OpK.st Hz hP hnt rfl (by decide) (by simp [go_sem, eqCl_self]; exact .mk _ _) (by first | exact True.intro | exact und9 | exact und4 | (unfold r64; omega) | omega | (simp; omega))) ?_ ?_
          · skip
            refine ExA.step1 1 (by kernel_rfl) rfl rfl (OpK.st Hz hP hnt rfl (by decide) (by simp [go_sem, eqCl_self]; exact .mk _ _) (by first | exact True.intro | exact und9 | exact und4 | (unfold r64; omega) | omega | (simp; omega))) ?_
            refine ExA.step1 2 (by kernel_rfl) rfl rfl (OpK.call (pc21 x (szCl_ok x 1048576 (by omega) (by omega) hc1)) Try.func21 hP hnt rfl rfl (by decide) (by kernel_rfl) rfl (by simp [go_sem, eqCl_self]; exact .mk _ _) (by simp [go_sem, Vsle, Vle, ACsle, ACle, ACsle.refl, eqCl_self]) (by simp [go_sem, eqCl_self]) (by simp [go_sem, eqCl_self]; exact .mk _)) ?_
            refine ExA.step1 3 (by kernel_rfl) rfl rfl (OpK.call (pc23 x x (szCl_ok x 1048576 (by omega) (by omega) hc1)) Try.func23 hP hnt rfl rfl (by decide) (by kernel_rfl) rfl (by simp [go_sem, eqCl_self]; exact .mk _ _) (by simp [go_sem, Vsle, Vle, ACsle, ACle, ACsle.refl, eqCl_self]) (by simp [go_sem, eqCl_self]) (by simp [go_sem, eqCl_self]; exact .mk _)) ?_
            refine ExA.step1 4 (by kernel_rfl) rfl rfl (OpK.st Hz hP hnt rfl (by decide) (by simp [go_sem, eqCl_self]; exact .mk _ _) (by first | exact True.intro | exact und9 | exact und4 | (unfold r64; omega) | omega | (simp; omega))) ?_
            refine ExA.done (by kernel_rfl) ?_
            refine Wp.condE (by simp [go_sem, eqCl_self]; exact .mk _ _ _) ?_ ?_
            · intro hc4
              simp [eqCl_self] at hc4
            · intro hc4
              try simp at hc4
              refine Wp.skip ?_
              refine Wp.seq ?_
              refine Wp.seq ?_
              refine Wp.any [0, 1, 2, 3, 4, 5, 6, 7, 8, 9] (by rw [hP]; exact mixed) rfl (by simp [trim]; exact .mk _) ?_
              refine ExA.step2 0 1 (by kernel_rfl) rfl rfl (OpK.st Hz hP hnt rfl (by decide) (by simp [go_sem, eqCl_self]; exact .mk _ _) (by first | exact True.intro | exact und9 | exact und4 | (unfold r64; omega) | omega | (simp; omega))) rfl rfl (OpK.st Hz hP hnt rfl (by decide) (by simp [go_sem, eqCl_self]; exact .mk _ _) (by first | exact True.intro | exact und9 | exact und4 | (unfold r64; omega) | omega | (simp; omega))) ?_ ?_
              · skip
                refine ExA.step1 1 (by kernel_rfl) rfl rfl (OpK.st Hz hP hnt rfl (by decide) (by simp [go_sem, eqCl_self]; exact .mk _ _) (by first | exact True.intro | exact und9 | exact und4 | (unfold r64; omega) | omega | (simp; omega))) ?_
                refine ExA.step1 2 (by kernel_rfl) rfl rfl (OpK.call (pc21 y (szCl_ok y (szCl x 1048576) (by omega) (by have := szCl_le x 1048576 (by omega); omega) hc2)) Try.func21 hP hnt rfl rfl (by decide) (by kernel_rfl) rfl (by simp [go_sem, eqCl_self]; exact .mk _ _) (by simp [go_sem, Vsle, Vle, ACsle, ACle, ACsle.refl, eqCl_self]) (by simp [go_sem, eqCl_self]) (by simp [go_sem, eqCl_self]; exact .mk _)) ?_
                refine ExA.step1 3 (by kernel_rfl) rfl rfl (OpK.call (pc23 y y (szCl_ok y (szCl x 1048576) (by omega) (by have := szCl_le x 1048576 (by omega); omega) hc2)) Try.func23 hP hnt rfl rfl (by decide) (by kernel_rfl) rfl (by simp [go_sem, eqCl_self]; exact .mk _ _) (by simp [go_sem, Vsle, Vle, ACsle, ACle, ACsle.refl, eqCl_self]) (by simp [go_sem, eqCl_self]) (by simp [go_sem, eqCl_self]; exact .mk _)) ?_
                refine ExA.step1 4 (by kernel_rfl) rfl rfl (OpK.st Hz hP hnt rfl (by decide) (by simp [go_sem, eqCl_self]; exact .mk _ _) (by first | exact True.intro | exact und9 | exact und4 | (unfold r64; omega) | omega | (simp; omega))) ?_
                refine ExA.done (by kernel_rfl) ?_
                refine Wp.condE (by simp [go_sem, eqCl_self]; exact .mk _ _ _) ?_ ?_
                · intro hc5
                  simp [eqCl_self] at hc5
                · intro hc5
                  try simp at hc5
                  refine Wp.skip ?_
                  refine Wp.seq ?_
                  refine Wp.regionE [0, 1, 2, 3, 4, 5, 6, 7, 8, 9] (by simp [trim]; exact .mk _) ?_
                  refine ExL.st Hz hP hnt rfl rfl (by decide) (by simp [go_sem, eqCl_self]; exact .mk _ _) (by first | exact True.intro | exact und9 | exact und4 | (unfold r64; omega) | omega | (simp; omega)) ?_
                  refine ExL.nil ?_
                  refine Wp.ret ?_
                  refine retQ.mk (by simp [go_sem, eqCl_self]; exact .mk _ _) ?_
                  simp [go_sem, Vsle, Vle, ACle]
              · skip
                refine ExA.step2 0 2 (by kernel_rfl) rfl rfl (OpK.st Hz hP hnt rfl (by decide) (by simp [go_sem, eqCl_self]; exact .mk _ _) (by first | exact True.intro | exact und9 | exact und4 | (unfold r64; omega) | omega | (simp; omega))) rfl rfl (OpK.call (pc21 y (szCl_ok y (szCl x 1048576) (by omega) (by have := szCl_le x 1048576 (by omega); omega) hc2)) Try.func21 hP hnt rfl rfl (by decide) (by kernel_rfl) rfl (by simp [go_sem, eqCl_self]; exact .mk _ _) (by simp [go_sem, Vsle, Vle, ACsle, ACle, ACsle.refl, eqCl_self]) (by simp [go_sem, eqCl_self]) (by simp [go_sem, eqCl_self]; exact .mk _)) ?_ ?_
                · skip
                  refine ExA.step1 2 (by kernel_rfl) rfl rfl (OpK.call (pc21 y (szCl_ok y (szCl x 1048576) (by omega) (by have := szCl_le x 1048576 (by omega); omega) hc2)) Try.func21 hP hnt rfl rfl (by decide) (by kernel_rfl) rfl (by simp [go_sem, eqCl_self]; exact .mk _ _) (by simp [go_sem, Vsle, Vle, ACsle, ACle, ACsle.refl, eqCl_self]) (by simp [go_sem, eqCl_self]) (by simp [go_sem, eqCl_self]; exact .mk _)) ?_
                  refine ExA.step1 3 (by kernel_rfl) rfl rfl (OpK.call (pc23 y y (szCl_ok y (szCl x 1048576) (by omega) (by have := szCl_le x 1048576 (by omega); omega) hc2)) Try.func23 hP hnt rfl rfl (by decide) (by kernel_rfl) rfl (by simp [go_sem, eqCl_self]; exact .mk _ _) (by simp [go_sem, Vsle, Vle, ACsle, ACle, ACsle.refl, eqCl_self]) (by simp [go_sem, eqCl_self]) (by simp [go_sem, eqCl_self]; exact .mk _)) ?_
                  refine ExA.step1 4 (by kernel_rfl) rfl rfl (OpK.st Hz hP hnt rfl (by decide) (by simp [go_sem, eqCl_self]; exact .mk _ _) (by first | exact True.intro | exact und9 | exact und4 | (unfold r64; omega) | omega | (simp; omega))) ?_
                  refine ExA.done (by kernel_rfl) ?_
                  refine Wp.condE (by simp [go_sem, eqCl_self]; exact .mk _ _ _) ?_ ?_
                  · intro hc5
                    simp [eqCl_self] at hc5
                  · intro hc5
                    try simp at hc5
                    refine Wp.skip ?_
                    refine Wp.seq ?_
                    refine Wp.regionE [0, 1, 2, 3, 4, 5, 6, 7, 8, 9] (by simp [trim]; exact .mk _) ?_
                    refine ExL.st Hz hP hnt rfl rfl (by decide) (by simp [go_sem, eqCl_self]; exact .mk _ _) (by first | exact True.intro | exact und9 | exact und4 | (unfold r64; omega) | omega | (simp; omega)) ?_
                    refine ExL.nil ?_
                    refine Wp.ret ?_
                    refine retQ.mk (by simp [go_sem, eqCl_self]; exact .mk _ _) ?_
                    simp [go_sem, Vsle, Vle, ACle]
                · skip
                  refine ExA.step1 0 (by kernel_rfl) rfl rfl (OpK.st Hz hP hnt rfl (by decide) (by simp [go_sem, eqCl_self]; exact .mk _ _) (by first | exact True.intro | exact und9 | exact und4 | (unfold r64; omega) | omega | (simp; omega))) ?_
                  refine ExA.step1 3 (by kernel_rfl) rfl rfl (OpK.call (pc23 y y (szCl_ok y (szCl x 1048576) (by omega) (by have := szCl_le x 1048576 (by omega); omega) hc2)) Try.func23 hP hnt rfl rfl (by decide) (by kernel_rfl) rfl (by simp [go_sem, eqCl_self]; exact .mk _ _) (by simp [go_sem, Vsle, Vle, ACsle, ACle, ACsle.refl, eqCl_self]) (by simp [go_sem, eqCl_self]) (by simp [go_sem, eqCl_self]; exact .mk _)) ?_
                  refine ExA.step1 4 (by kernel_rfl) rfl rfl (OpK.st Hz hP hnt rfl (by decide) (by simp [go_sem, eqCl_self]; exact .mk _ _) (by first | exact True.intro | exact und9 | exact und4 | (unfold r64; omega) | omega | (simp; omega))) ?_
                  refine ExA.done (by kernel_rfl) ?_
                  refine Wp.condE (by simp [go_sem, eqCl_self]; exact .mk _ _ _) ?_ ?_
                  · intro hc5
                    simp [eqCl_self] at hc5
                  · intro hc5
                    try simp at hc5
                    refine Wp.skip ?_
                    refine Wp.seq ?_
                    refine Wp.regionE [0, 1, 2, 3, 4, 5, 6, 7, 8, 9] (by simp [trim]; exact .mk _) ?_
                    refine ExL.st Hz hP hnt rfl rfl (by decide) (by simp [go_sem, eqCl_self]; exact .mk _ _) (by first | exact True.intro | exact und9 | exact und4 | (unfold r64; omega) | omega | (simp; omega)) ?_
                    refine ExL.nil ?_
                    refine Wp.ret ?_
                    refine retQ.mk (by simp [go_sem, eqCl_self]; exact .mk _ _) ?_
                    simp [go_sem, Vsle, Vle, ACle]
          · skip
            refine ExA.step2 0 2 (by kernel_rfl) rfl rfl (OpK.st Hz hP hnt rfl (by decide) (by simp [go_sem, eqCl_self]; exact .mk _ _) (by first | exact True.intro | exact und9 | exact und4 | (unfold r64; omega) | omega | (simp; omega))) rfl rfl (OpK.call (pc21 x (szCl_ok x 1048576 (by omega) (by omega) hc1)) Try.func21 hP hnt rfl rfl (by decide) (by kernel_rfl) rfl (by simp [go_sem, eqCl_self]; exact .mk _ _) (by simp [go_sem, Vsle, Vle, ACsle, ACle, ACsle.refl, eqCl_self]) (by simp [go_sem, eqCl_self]) (by simp [go_sem, eqCl_self]; exact .mk _)) ?_ ?_
            · skip
              refine ExA.step1 2 (by kernel_rfl) rfl rfl (OpK.call (pc21 x (szCl_ok x 1048576 (by omega) (by omega) hc1)) Try.func21 hP hnt rfl rfl (by decide) (by kernel_rfl) rfl (by simp [go_sem, eqCl_self]; exact .mk _ _) (by simp [go_sem, Vsle, Vle, ACsle, ACle, ACsle.refl, eqCl_self]) (by simp [go_sem, eqCl_self]) (by simp [go_sem, eqCl_self]; exact .mk _)) ?_
              refine ExA.step1 3 (by kernel_rfl) rfl rfl (OpK.call (pc23 x x (szCl_ok x 1048576 (by omega) (by omega) hc1)) Try.func23 hP hnt rfl rfl (by decide) (by kernel_rfl) rfl (by simp [go_sem, eqCl_self]; exact .mk _ _) (by simp [go_sem, Vsle, Vle, ACsle, ACle, ACsle.refl, eqCl_self]) (by simp [go_sem, eqCl_self]) (by simp [go_sem, eqCl_self]; exact .mk _)) ?_
              refine ExA.step1 4 (by kernel_rfl) rfl rfl (OpK.st Hz hP hnt rfl (by decide) (by simp [go_sem, eqCl_self]; exact .mk _ _) (by first | exact True.intro | exact und9 | exact und4 | (unfold r64; omega) | omega | (simp; omega))) ?_
              refine ExA.done (by kernel_rfl) ?_
              refine Wp.condE (by simp [go_sem, eqCl_self]; exact .mk _ _ _) ?_ ?_
              · intro hc4
                simp [eqCl_self] at hc4
              · intro hc4
                try simp at hc4
                refine Wp.skip ?_
                refine Wp.seq ?_
                refine Wp.seq ?_
                refine Wp.any [0, 1, 2, 3, 4, 5, 6, 7, 8, 9] (by rw [hP]; exact mixed) rfl (by simp [trim]; exact .mk _) ?_
                refine ExA.step2 0 1 (by kernel_rfl) rfl rfl (OpK.st Hz hP hnt rfl (by decide) (by simp [go_sem, eqCl_self]; exact .mk _ _) (by first | exact True.intro | exact und9 | exact und4 | (unfold r64; omega) | omega | (simp; omega))) rfl rfl (OpK.st Hz hP hnt rfl (by decide) (by simp [go_sem, eqCl_self]; exact .mk _ _) (by first | exact True.intro | exact und9 | exact und4 | (unfold r64; omega) | omega | (simp; omega))) ?_ ?_
                · skip
                  refine ExA.step1 1 (by kernel_rfl) rfl rfl (OpK.st Hz hP hnt rfl (by decide) (by simp [go_sem, eqCl_self]; exact .mk _ _) (by first | exact True.intro | exact und9 | exact und4 | (unfold r64; omega) | omega | (simp; omega))) ?_
                  refine ExA.step1 2 (by kernel_rfl) rfl rfl (OpK.call (pc21 y (szCl_ok y (szCl x 1048576) (by omega) (by have := szCl_le x 1048576 (by omega); omega) hc2)) Try.func21 hP hnt rfl rfl (by decide) (by kernel_rfl) rfl (by simp [go_sem, eqCl_self]; exact .mk _ _) (by simp [go_sem, Vsle, Vle, ACsle, ACle, ACsle.refl, eqCl_self]) (by simp [go_sem, eqCl_self]) (by simp [go_sem, eqCl_self]; exact .mk _)) ?_
                  refine ExA.step1 3 (by kernel_rfl) rfl rfl (OpK.call (pc23 y y (szCl_ok y (szCl x 1048576) (by omega) (by have := szCl_le x 1048576 (by omega); omega) hc2)) Try.func23 hP hnt rfl rfl (by decide) (by kernel_rfl) rfl (by simp [go_sem, eqCl_self]; exact .mk _ _) (by simp [go_sem, Vsle, Vle, ACsle, ACle, ACsle.refl, eqCl_self]) (by simp [go_sem, eqCl_self]) (by simp [go_sem, eqCl_self]; exact .mk _)) ?_
                  refine ExA.step1 4 (by kernel_rfl) rfl rfl (OpK.st Hz hP hnt rfl (by decide) (by simp [go_sem, eqCl_self]; exact .mk _ _) (by first | exact True.intro | exact und9 | exact und4 | (unfold r64; omega) | omega | (simp; omega))) ?_
                  refine ExA.done (by kernel_rfl) ?_
                  refine Wp.condE (by simp [go_sem, eqCl_self]; exact .mk _ _ _) ?_ ?_
                  · intro hc5
                    simp [eqCl_self] at hc5
                  · intro hc5
                    try simp at hc5
                    refine Wp.skip ?_
                    refine Wp.seq ?_
                    refine Wp.regionE [0, 1, 2, 3, 4, 5, 6, 7, 8, 9] (by simp [trim]; exact .mk _) ?_
                    refine ExL.st Hz hP hnt rfl rfl (by decide) (by simp [go_sem, eqCl_self]; exact .mk _ _) (by first | exact True.intro | exact und9 | exact und4 | (unfold r64; omega) | omega | (simp; omega)) ?_
                    refine ExL.nil ?_
                    refine Wp.ret ?_
                    refine retQ.mk (by simp [go_sem, eqCl_self]; exact .mk _ _) ?_
                    simp [go_sem, Vsle, Vle, ACle]
                · skip
                  refine ExA.step2 0 2 (by kernel_rfl) rfl rfl (OpK.st Hz hP hnt rfl (by decide) (by simp [go_sem, eqCl_self]; exact .mk _ _) (by first | exact True.intro | exact und9 | exact und4 | (unfold r64; omega) | omega | (simp; omega))) rfl rfl (OpK.call (pc21 y (szCl_ok y (szCl x 1048576) (by omega) (by have := szCl_le x 1048576 (by omega); omega) hc2)) Try.func21 hP hnt rfl rfl (by decide) (by kernel_rfl) rfl (by simp [go_sem, eqCl_self]; exact .mk _ _) (by simp [go_sem, Vsle, Vle, ACsle, ACle, ACsle.refl, eqCl_self]) (by simp [go_sem, eqCl_self]) (by simp [go_sem, eqCl_self]; exact .mk _)) ?_ ?_
                  · skip
                    refine ExA.step1 2 (by kernel_rfl) rfl rfl (OpK.call (pc21 y (szCl_ok y (szCl x 1048576) (by omega) (by have := szCl_le x 1048576 (by omega); omega) hc2)) Try.func21 hP hnt rfl rfl (by decide) (by kernel_rfl) rfl (by simp [go_sem, eqCl_self]; exact .mk _ _) (by simp [go_sem, Vsle, Vle, ACsle, ACle, ACsle.refl, eqCl_self]) (by simp [go_sem, eqCl_self]) (by simp [go_sem, eqCl_self]; exact .mk _)) ?_
                    refine ExA.step1 3 (by kernel_rfl) rfl rfl (OpK.call (pc23 y y (szCl_ok y (szCl x 1048576) (by omega) (by have := szCl_le x 1048576 (by omega); omega) hc2)) Try.func23 hP hnt rfl rfl (by decide) (by kernel_rfl) rfl (by simp [go_sem, eqCl_self]; exact .mk _ _) (by simp [go_sem, Vsle, Vle, ACsle, ACle, ACsle.refl, eqCl_self]) (by simp [go_sem, eqCl_self]) (by simp [go_sem, eqCl_self]; exact .mk _)) ?_
                    refine ExA.step1 4 (by kernel_rfl) rfl rfl (OpK.st Hz hP hnt rfl (by decide) (by simp [go_sem, eqCl_self]; exact .mk _ _) (by first | exact True.intro | exact und9 | exact und4 | (unfold r64; omega) | omega | (simp; omega))) ?_
                    refine ExA.done (by kernel_rfl) ?_
                    refine Wp.condE (by simp [go_sem, eqCl_self]; exact .mk _ _ _) ?_ ?_
                    · intro hc5
                      simp [eqCl_self] at hc5
                    · intro hc5
                      try simp at hc5
                      refine Wp.skip ?_
                      refine Wp.seq ?_
                      refine Wp.regionE [0, 1, 2, 3, 4, 5, 6, 7, 8, 9] (by simp [trim]; exact .mk _) ?_
                      refine ExL.st Hz hP hnt rfl rfl (by decide) (by simp [go_sem, eqCl_self]; exact .mk _ _) (by first | exact True.intro | exact und9 | exact und4 | (unfold r64; omega) | omega | (simp; omega)) ?_
                      refine ExL.nil ?_
                      refine Wp.ret ?_
                      refine retQ.mk (by simp [go_sem, eqCl_self]; exact .mk _ _) ?_
                      simp [go_sem, Vsle, Vle, ACle]
                  · skip
                    refine ExA.step1 0 (by kernel_rfl) rfl rfl (OpK.st Hz hP hnt rfl (by decide) (by simp [go_sem, eqCl_self]; exact .mk _ _) (by first | exact True.intro | exact und9 | exact und4 | (unfold r64; omega) | omega | (simp; omega))) ?_
                    refine ExA.step1 3 (by kernel_rfl) rfl rfl (OpK.call (pc23 y y (szCl_ok y (szCl x 1048576) (by omega) (by have := szCl_le x 1048576 (by omega); omega) hc2)) Try.func23 hP hnt rfl rfl (by decide) (by kernel_rfl) rfl (by simp [go_sem, eqCl_self]; exact .mk _ _) (by simp [go_sem, Vsle, Vle, ACsle, ACle, ACsle.refl, eqCl_self]) (by simp [go_sem, eqCl_self]) (by simp [go_sem, eqCl_self]; exact .mk _)) ?_
                    refine ExA.step1 4 (by kernel_rfl) rfl rfl (OpK.st Hz hP hnt rfl (by decide) (by simp [go_sem, eqCl_self]; exact .mk _ _) (by first | exact True.intro | exact und9 | exact und4 | (unfold r64; omega) | omega | (simp; omega))) ?_
                    refine ExA.done (by kernel_rfl) ?_
                    refine Wp.condE (by simp [go_sem, eqCl_self]; exact .mk _ _ _) ?_ ?_
                    · intro hc5
                      simp [eqCl_self] at hc5
                    · intro hc5
                      try simp at hc5
                      refine Wp.skip ?_
                      refine Wp.seq ?_
                      refine Wp.regionE [0, 1, 2, 3, 4, 5, 6, 7, 8, 9] (by simp [trim]; exact .mk _) ?_
                      refine ExL.st Hz hP hnt rfl rfl (by decide) (by simp [go_sem, eqCl_self]; exact .mk _ _) (by first | exact True.intro | exact und9 | exact und4 | (unfold r64; omega) | omega | (simp; omega)) ?_
                      refine ExL.nil ?_
                      refine Wp.ret ?_
                      refine retQ.mk (by simp [go_sem, eqCl_self]; exact .mk _ _) ?_
                      simp [go_sem, Vsle, Vle, ACle]
            · skip
              refine ExA.step1 0 (by kernel_rfl) rfl rfl (OpK.st Hz hP hnt rfl (by decide) (by simp [go_sem, eqCl_self]; exact .mk _ _) (by first | exact True.intro | exact und9 | exact und4 | (unfold r64; omega) | omega | (simp; omega))) ?_
              refine ExA.step1 3 (by kernel_rfl) rfl rfl (OpK.call (pc23 x x (szCl_ok x 1048576 (by omega) (by omega) hc1)) Try.func23 hP hnt rfl rfl (by decide) (by kernel_rfl) rfl (by simp [go_sem, eqCl_self]; exact .mk _ _) (by simp [go_sem, Vsle, Vle, ACsle, ACle, ACsle.refl, eqCl_self]) (by simp [go_sem, eqCl_self]) (by simp [go_sem, eqCl_self]; exact .mk _)) ?_
              refine ExA.step1 4 (by kernel_rfl) rfl rfl (OpK.st Hz hP hnt rfl (by decide) (by simp [go_sem, eqCl_self]; exact .mk _ _) (by first | exact True.intro | exact und9 | exact und4 | (unfold r64; omega) | omega | (simp; omega))) ?_
              refine ExA.done (by kernel_rfl) ?_
              refine Wp.condE (by simp [go_sem, eqCl_self]; exact .mk _ _ _) ?_ ?_
              · intro hc4
                simp [eqCl_self] at hc4
              · intro hc4
                try simp at hc4
                refine Wp.skip ?_
                refine Wp.seq ?_
                refine Wp.seq ?_
                refine Wp.any [0, 1, 2, 3, 4, 5, 6, 7, 8, 9] (by rw [hP]; exact mixed) rfl (by simp [trim]; exact .mk _) ?_
                refine ExA.step2 0 1 (by kernel_rfl) rfl rfl (OpK.st Hz hP hnt rfl (by decide) (by simp [go_sem, eqCl_self]; exact .mk _ _) (by first | exact True.intro | exact und9 | exact und4 | (unfold r64; omega) | omega | (simp; omega))) rfl rfl (OpK.st Hz hP hnt rfl (by decide) (by simp [go_sem, eqCl_self]; exact .mk _ _) (by first | exact True.intro | exact und9 | exact und4 | (unfold r64; omega) | omega | (simp; omega))) ?_ ?_
                · skip
                  refine ExA.step1 1 (by kernel_rfl) rfl rfl (OpK.st Hz hP hnt rfl (by decide) (by simp [go_sem, eqCl_self]; exact .mk _ _) (by first | exact True.intro | exact und9 | exact und4 | (unfold r64; omega) | omega | (simp; omega))) ?_
                  refine ExA.step1 2 (by kernel_rfl) rfl rfl (OpK.call (pc21 y (szCl_ok y (szCl x 1048576) (by omega) (by have := szCl_le x 1048576 (by omega); omega) hc2)) Try.func21 hP hnt rfl rfl (by decide) (by kernel_rfl) rfl (by simp [go_sem, eqCl_self]; exact .mk _ _) (by simp [go_sem, Vsle, Vle, ACsle, ACle, ACsle.refl, eqCl_self]) (by simp [go_sem, eqCl_self]) (by simp [go_sem, eqCl_self]; exact .mk _)) ?_
                  refine ExA.step1 3 (by kernel_rfl) rfl rfl (OpK.call (pc23 y y (szCl_ok y (szCl x 1048576) (by omega) (by have := szCl_le x 1048576 (by omega); omega) hc2)) Try.func23 hP hnt rfl rfl (by decide) (by kernel_rfl) rfl (by simp [go_sem, eqCl_self]; exact .mk _ _) (by simp [go_sem, Vsle, Vle, ACsle, ACle, ACsle.refl, eqCl_self]) (by simp [go_sem, eqCl_self]) (by simp [go_sem, eqCl_self]; exact .mk _)) ?_
                  refine ExA.step1 4 (by kernel_rfl) rfl rfl (OpK.st Hz hP hnt rfl (by decide) (by simp [go_sem, eqCl_self]; exact .mk _ _) (by first | exact True.intro | exact und9 | exact und4 | (unfold r64; omega) | omega | (simp; omega))) ?_
                  refine ExA.done (by kernel_rfl) ?_
                  refine Wp.condE (by simp [go_sem, eqCl_self]; exact .mk _ _ _) ?_ ?_
                  · intro hc5
                    simp [eqCl_self] at hc5
                  · intro hc5
                    try simp at hc5
                    refine Wp.skip ?_
                    refine Wp.seq ?_
                    refine Wp.regionE [0, 1, 2, 3, 4, 5, 6, 7, 8, 9] (by simp [trim]; exact .mk _) ?_
                    refine ExL.st Hz hP hnt rfl rfl (by decide) (by simp [go_sem, eqCl_self]; exact .mk _ _) (by first | exact True.intro | exact und9 | exact und4 | (unfold r64; omega) | omega | (simp; omega)) ?_
                    refine ExL.nil ?_
                    refine Wp.ret ?_
                    refine retQ.mk (by simp [go_sem, eqCl_self]; exact .mk _ _) ?_
                    simp [go_sem, Vsle, Vle, ACle]
                · skip
                  refine ExA.step2 0 2 (by kernel_rfl) rfl rfl (OpK.st Hz hP hnt rfl (by decide) (by simp [go_sem, eqCl_self]; exact .mk _ _) (by first | exact True.intro | exact und9 | exact und4 | (unfold r64; omega) | omega | (simp; omega))) rfl rfl (OpK.call (pc21 y (szCl_ok y (szCl x 1048576) (by omega) (by have := szCl_le x 1048576 (by omega); omega) hc2)) Try.func21 hP hnt rfl rfl (by decide) (by kernel_rfl) rfl (by simp [go_sem, eqCl_self]; exact .mk _ _) (by simp [go_sem, Vsle, Vle, ACsle, ACle, ACsle.refl, eqCl_self]) (by simp [go_sem, eqCl_self]) (by simp [go_sem, eqCl_self]; exact .mk _)) ?_ ?_
                  · skip
                    refine ExA.step1 2 (by kernel_rfl) rfl rfl (OpK.call (pc21 y (szCl_ok y (szCl x 1048576) (by omega) (by have := szCl_le x 1048576 (by omega); omega) hc2)) Try.func21 hP hnt rfl rfl (by decide) (by kernel_rfl) rfl (by simp [go_sem, eqCl_self]; exact .mk _ _) (by simp [go_sem, Vsle, Vle, ACsle, ACle, ACsle.refl, eqCl_self]) (by simp [go_sem, eqCl_self]) (by simp [go_sem, eqCl_self]; exact .mk _)) ?_
                    refine ExA.step1 3 (by kernel_rfl) rfl rfl (OpK.call (pc23 y y (szCl_ok y (szCl x 1048576) (by omega) (by have := szCl_le x 1048576 (by omega); omega) hc2)) Try.func23 hP hnt rfl rfl (by decide) (by kernel_rfl) rfl (by simp [go_sem, eqCl_self]; exact .mk _ _) (by simp [go_sem, Vsle, Vle, ACsle, ACle, ACsle.refl, eqCl_self]) (by simp [go_sem, eqCl_self]) (by simp [go_sem, eqCl_self]; exact .mk _)) ?_
                    refine ExA.step1 4 (by kernel_rfl) rfl rfl (OpK.st Hz hP hnt rfl (by decide) (by simp [go_sem, eqCl_self]; exact .mk _ _) (by first | exact True.intro | exact und9 | exact und4 | (unfold r64; omega) | omega | (simp; omega))) ?_
                    refine ExA.done (by kernel_rfl) ?_
                    refine Wp.condE (by simp [go_sem, eqCl_self]; exact .mk _ _ _) ?_ ?_
                    · intro hc5
                      simp [eqCl_self] at hc5
                    · intro hc5
                      try simp at hc5
                      refine Wp.skip ?_
                      refine Wp.seq ?_
                      refine Wp.regionE [0, 1, 2, 3, 4, 5, 6, 7, 8, 9] (by simp [trim]; exact .mk _) ?_
                      refine ExL.st Hz hP hnt rfl rfl (by decide) (by simp [go_sem, eqCl_self]; exact .mk _ _) (by first | exact True.intro | exact und9 | exact und4 | (unfold r64; omega) | omega | (simp; omega)) ?_
                      refine ExL.nil ?_
                      refine Wp.ret ?_
                      refine retQ.mk (by simp [go_sem, eqCl_self]; exact .mk _ _) ?_
                      simp [go_sem, Vsle, Vle, ACle]
                  · skip
                    refine ExA.step1 0 (by kernel_rfl) rfl rfl (OpK.st Hz hP hnt rfl (by decide) (by simp [go_sem, eqCl_self]; exact .mk _ _) (by first | exact True.intro | exact und9 | exact und4 | (unfold r64; omega) | omega | (simp; omega))) ?_
                    refine ExA.step1 3 (by kernel_rfl) rfl rfl (OpK.call (pc23 y y (szCl_ok y (szCl x 1048576) (by omega) (by have := szCl_le x 1048576 (by omega); omega) hc2)) Try.func23 hP hnt rfl rfl (by decide) (by kernel_rfl) rfl (by simp [go_sem, eqCl_self]; exact .mk _ _) (by simp [go_sem, Vsle, Vle, ACsle, ACle, ACsle.refl, eqCl_self]) (by simp [go_sem, eqCl_self]) (by simp [go_sem, eqCl_self]; exact .mk _)) ?_
                    refine ExA.step1 4 (by kernel_rfl) rfl rfl (OpK.st Hz hP hnt rfl (by decide) (by simp [go_sem, eqCl_self]; exact .mk _ _) (by first | exact True.intro | exact und9 | exact und4 | (unfold r64; omega) | omega | (simp; omega))) ?_
                    refine ExA.done (by kernel_rfl) ?_
                    refine Wp.condE (by simp [go_sem, eqCl_self]; exact .mk _ _ _) ?_ ?_
                    · intro hc5
                      simp [eqCl_self] at hc5
                    · intro hc5
                      try simp at hc5
                      refine Wp.skip ?_
                      refine Wp.seq ?_
                      refine Wp.regionE [0, 1, 2, 3, 4, 5, 6, 7, 8, 9] (by simp [trim]; exact .mk _) ?_
                      refine ExL.st Hz hP hnt rfl rfl (by decide) (by simp [go_sem, eqCl_self]; exact .mk _ _) (by first | exact True.intro | exact und9 | exact und4 | (unfold r64; omega) | omega | (simp; omega)) ?_
                      refine ExL.nil ?_
                      refine Wp.ret ?_
                      refine retQ.mk (by simp [go_sem, eqCl_self]; exact .mk _ _) ?_
                      simp [go_sem, Vsle, Vle, ACle]
end Go.RF.S
