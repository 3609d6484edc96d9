/- The functions of this seat, walked in that logic. -/
import Derived.Test.YtmahppdampmpfaaT2
set_option linter.unusedVariables false
set_option linter.unusedSimpArgs false
namespace Go.RF.S
open Go Go.Proofs Go.RF
attribute [go_sem] vI vB vS vTs vT
theorem w14 (k n : Int) (s : ByteArray) (xs : List Tm) (l : Int) (h0 : 0 ≤ l) (h1 : l ≤ 1048576) (hs : s.size ≤ 9223372036854775807)
    (h45 : ∀ l, 0 ≤ l → l ≤ 1048576 → PC Try.prog 45 ([vTs xs, vI l].map .val) [vI (szS xs l)] []) :
    PC Try.prog 14 ([vT (.mk k n s xs), vI l].map .val) [vI (sz (.mk k n s xs) l)] [] := by
  refine PC_of Try.func14 rfl rfl Try.ntmps14 (by simp) fun E hP hnt hnp => ?_
  simp only [vT, vI, Tm.ds_mk, List.map_cons, List.map_nil, dv_raw, dv_sl, dv_ptr, dv_fn, inMap, Nat.reduceAdd]
  refine Wp.seq ?_
  refine Wp.regionE [0, 1, 2, 4] (by simp [trim]; exact .mk _) ?_
  refine ExL.ef Hz hP hnt hnp rfl (by decide) (by simp [go_sem]; exact .mk _ _) trivial ?_
  refine ExL.st Hz hP hnt rfl rfl (by decide) (by simp [go_sem]; exact .mk _ _) (by first | exact True.intro | exact und9 | exact und4 | (unfold r64; omega) | omega | (simp; omega)) ?_
  refine ExL.nil ?_
  refine Wp.seq ?_
  refine Wp.regionE [0, 1, 2, 4] (by simp [trim]; exact .mk _) ?_
  refine ExL.st Hz hP hnt rfl rfl (by decide) (by simp [go_sem]; exact .mk _ _) (by first | exact True.intro | exact und9 | exact und4 | (unfold r64; omega) | omega | (simp; omega)) ?_
  refine ExL.st Hz hP hnt rfl rfl (by decide) (by simp [go_sem]; exact .mk _ _) (by first | exact True.intro | exact und9 | exact und4 | (unfold r64; omega) | omega | (simp; omega)) ?_
  refine ExL.st Hz hP hnt rfl rfl (by decide) (by simp [go_sem]; exact .mk _ _) (by first | exact True.intro | exact und9 | exact und4 | (unfold r64; omega) | omega | (simp; omega)) ?_
  refine ExL.st Hz hP hnt rfl rfl (by decide) (by simp [go_sem]; exact .mk _ _) (by first | exact True.intro | exact und9 | exact und4 | (unfold r64; omega) | omega | (simp; omega)) ?_
  refine ExL.st Hz hP hnt rfl rfl (by decide) (by simp [go_sem]; exact .mk _ _) (by first | exact True.intro | exact und9 | exact und4 | (unfold r64; omega) | omega | (simp; omega)) ?_
  refine ExL.st Hz hP hnt rfl rfl (by decide) (by simp [go_sem]; exact .mk _ _) (by first | exact True.intro | exact und9 | exact und4 | (unfold r64; omega) | omega | (simp; omega)) ?_
  refine ExL.nil ?_
  refine Wp.seq ?_
  refine Wp.seq ?_
  refine Wp.regionE [0, 1, 2, 4] (by simp [trim]; exact .mk _) ?_
  refine ExL.st Hz hP hnt rfl rfl (by decide) (by simp [go_sem]; exact .mk _ _) (by first | exact True.intro | exact und9 | exact und4 | (unfold r64; omega) | omega | (simp; omega)) ?_
  refine ExL.st Hz hP hnt rfl rfl (by decide) (by simp [go_sem]; exact .mk _ _) (by first | exact True.intro | exact und9 | exact und4 | (unfold r64; omega) | omega | (simp; omega)) ?_
  refine ExL.nil ?_
  refine Wp.condE (by simp [go_sem]; exact .mk _ _ _) ?_ ?_
  · intro hc1
    try simp at hc1
    refine Wp.seq ?_
    refine Wp.regionE [0, 1, 2, 4] (by simp [trim]; exact .mk _) ?_
    refine ExL.st Hz hP hnt rfl rfl (by decide) (by simp [go_sem]; exact .mk _ _) (by first | exact True.intro | exact und9 | exact und4 | (unfold r64; omega) | omega | (simp; omega)) ?_
    refine ExL.nil ?_
    refine Wp.ret ?_
    refine retQ.mk (by simp [go_sem]; exact .mk _ _) ?_
    (simp [Vsle, Vle, ACle, sz_mk, vI] <;> omega)
  · intro hc1
    try simp at hc1
    refine Wp.skip ?_
    refine Wp.seq ?_
    refine Wp.regionE [0, 1, 2, 4] (by simp [trim]; exact .mk _) ?_
    refine ExL.st Hz hP hnt rfl rfl (by decide) (by simp [go_sem]; exact .mk _ _) (by first | exact True.intro | exact und9 | exact und4 | (unfold r64; omega) | omega | (simp; omega)) ?_
    refine ExL.st Hz hP hnt rfl rfl (by decide) (by simp [go_sem]; exact .mk _ _) (by first | exact True.intro | exact und9 | exact und4 | (unfold r64; omega) | omega | (simp; omega)) ?_
    refine ExL.st Hz hP hnt rfl rfl (by decide) (by simp [go_sem]; exact .mk _ _) (by first | exact True.intro | exact und9 | exact und4 | (unfold r64; omega) | omega | (simp; omega)) ?_
    refine ExL.call (h45 (l - s.size) (by omega) (by omega)) Try.func45 hP hnt rfl rfl rfl (by decide) (by kernel_rfl) rfl (by simp [go_sem]; exact .mk _ _) (by simp [go_sem, Vsle, Vle, ACsle, ACle, ACsle.refl]) (by simp [go_sem]) ?_
    refine ExL.st Hz hP hnt rfl rfl (by decide) (by simp [go_sem]; exact .mk _ _) (by first | exact True.intro | exact und9 | exact und4 | (unfold r64; omega) | omega | (simp; omega)) ?_
    refine ExL.nil ?_
    refine Wp.seq ?_
    refine Wp.seq ?_
    refine Wp.regionE [0, 1, 2, 4] (by simp [trim]; exact .mk _) ?_
    refine ExL.st Hz hP hnt rfl rfl (by decide) (by simp [go_sem]; exact .mk _ _) (by first | exact True.intro | exact und9 | exact und4 | (unfold r64; omega) | omega | (simp; omega)) ?_
    refine ExL.st Hz hP hnt rfl rfl (by decide) (by simp [go_sem]; exact .mk _ _) (by first | exact True.intro | exact und9 | exact und4 | (unfold r64; omega) | omega | (simp; omega)) ?_
    refine ExL.nil ?_
    refine Wp.condE (by simp [go_sem]; exact .mk _ _ _) ?_ ?_
    · intro hc2
      try simp at hc2
      refine Wp.seq ?_
      refine Wp.regionE [0, 1, 2, 4] (by simp [trim]; exact .mk _) ?_
      refine ExL.st Hz hP hnt rfl rfl (by decide) (by simp [go_sem]; exact .mk _ _) (by first | exact True.intro | exact und9 | exact und4 | (unfold r64; omega) | omega | (simp; omega)) ?_
      refine ExL.nil ?_
      refine Wp.ret ?_
      refine retQ.mk (by simp [go_sem]; exact .mk _ _) ?_
      (simp [Vsle, Vle, ACle, sz_mk, vI] <;> omega)
    · intro hc2
      try simp at hc2
      refine Wp.skip ?_
      refine Wp.seq ?_
      refine Wp.regionE [0, 1, 2, 4] (by simp [trim]; exact .mk _) ?_
      refine ExL.st Hz hP hnt rfl rfl (by decide) (by simp [go_sem]; exact .mk _ _) (by first | exact True.intro | exact und9 | exact und4 | (unfold r64; omega) | omega | (simp; omega)) ?_
      refine ExL.st Hz hP hnt rfl rfl (by decide) (by simp [go_sem]; exact .mk _ _) (by first | exact True.intro | exact und9 | exact und4 | (unfold r64; omega) | omega | (simp; omega)) ?_
      refine ExL.nil ?_
      refine Wp.ret ?_
      refine retQ.mk (by simp [go_sem]; exact .mk _ _) ?_
      (simp [Vsle, Vle, ACle, sz_mk, vI] <;> omega)
theorem w45 (xs : List Tm) (l : Int) (h0 : 0 ≤ l) (h1 : l ≤ 1048576) (hx : xs.length ≤ 9223372036854775807)
    (h14 : ∀ x ∈ xs, ∀ l, 0 ≤ l → l ≤ 1048576 → PC Try.prog 14 ([vT x, vI l].map .val) [vI (sz x l)] []) :
    PC Try.prog 45 ([vTs xs, vI l].map .val) [vI (szS xs l)] [] := by
  refine PC_of Try.func45 rfl rfl Try.ntmps45 (by simp) fun E hP hnt hnp => ?_
  simp only [vTs, vI, List.map_cons, List.map_nil, dv_raw, dv_sl, dv_ptr, dv_fn, inMap, Nat.reduceAdd]
  refine Wp.seq ?_
  refine Wp.regionE [0, 1, 4, 5] (by simp [trim]; exact .mk _) ?_
  refine ExL.st Hz hP hnt rfl rfl (by decide) (by simp [go_sem]; exact .mk _ _) (by first | exact True.intro | exact und9 | exact und4 | (unfold r64; omega) | omega | (simp; omega)) ?_
  refine ExL.nil ?_
  refine Wp.seq ?_
  refine Wp.regionE [0, 1, 4, 5] (by simp [trim]; exact .mk _) ?_
  refine ExL.st Hz hP hnt rfl rfl (by decide) (by simp [go_sem]; exact .mk _ _) (by first | exact True.intro | exact und9 | exact und4 | (unfold r64; omega) | omega | (simp; omega)) ?_
  refine ExL.st Hz hP hnt rfl rfl (by decide) (by simp [go_sem]; exact .mk _ _) (by first | exact True.intro | exact und9 | exact und4 | (unfold r64; omega) | omega | (simp; omega)) ?_
  refine ExL.st Hz hP hnt rfl rfl (by decide) (by simp [go_sem]; exact .mk _ _) (by first | exact True.intro | exact und9 | exact und4 | (unfold r64; omega) | omega | (simp; omega)) ?_
  refine ExL.st Hz hP hnt rfl rfl (by decide) (by simp [go_sem]; exact .mk _ _) (by first | exact True.intro | exact und9 | exact und4 | (unfold r64; omega) | omega | (simp; omega)) ?_
  refine ExL.st Hz hP hnt rfl rfl (by decide) (by simp [go_sem]; exact .mk _ _) (by first | exact True.intro | exact und9 | exact und4 | (unfold r64; omega) | omega | (simp; omega)) ?_
  refine ExL.nil ?_
  refine Wp.seq ?_
  refine Wp.seq ?_
  refine Wp.regionE [0, 1, 4, 5] (by simp [trim]; exact .mk _) ?_
  refine ExL.st Hz hP hnt rfl rfl (by decide) (by simp [go_sem]; exact .mk _ _) (by first | exact True.intro | exact und9 | exact und4 | (unfold r64; omega) | omega | (simp; omega)) ?_
  refine ExL.st Hz hP hnt rfl rfl (by decide) (by simp [go_sem]; exact .mk _ _) (by first | exact True.intro | exact und9 | exact und4 | (unfold r64; omega) | omega | (simp; omega)) ?_
  refine ExL.nil ?_
  refine Wp.condE (by simp [go_sem]; exact .mk _ _ _) ?_ ?_
  · intro hc1
    try simp at hc1
    refine Wp.seq ?_
    refine Wp.regionE [0, 1, 4, 5] (by simp [trim]; exact .mk _) ?_
    refine ExL.st Hz hP hnt rfl rfl (by decide) (by simp [go_sem]; exact .mk _ _) (by first | exact True.intro | exact und9 | exact und4 | (unfold r64; omega) | omega | (simp; omega)) ?_
    refine ExL.nil ?_
    refine Wp.ret ?_
    refine retQ.mk (by simp [go_sem]; exact .mk _ _) ?_
    (simp [Vsle, Vle, ACle, vI]; first | (rw [szS, if_pos (by omega)]; done) | (rw [qS, q4, q5 hc2, if_pos hc3]; done) | (rw [qS, q4, q6 (by omega)]; done))
  · intro hc1
    try simp at hc1
    refine Wp.skip ?_
    refine Wp.seq ?_
    refine Wp.seq ?_
    refine Wp.regionE [0, 1, 4, 5] (by simp [trim]; exact .mk _) ?_
    refine ExL.st Hz hP hnt rfl rfl (by decide) (by simp [go_sem]; exact .mk _ _) (by first | exact True.intro | exact und9 | exact und4 | (unfold r64; omega) | omega | (simp; omega)) ?_
    refine ExL.nil ?_
    refine Wp.block ?_
    refine Wp.loop (ι := { p : Nat × Int // p.1 ≤ xs.length ∧ 0 ≤ p.2 ∧ p.2 ≤ 1048576 ∧ szL xs (l - xs.length) = szL (xs.drop p.1) p.2 }) (fun p => [(0, .val (vTs xs)), (3, .val (vI p.1.2)), (15, .val (vI p.1.1))]) (fun p => xs.length - p.1.1) ⟨(0, l - xs.length), by simp, by simp; omega, by simp; omega, by simp⟩ (LeL.le (by simp [go_sem, LeL, AVle, Vle, ACsle, ACle])) ?_
    intro p
    obtain ⟨⟨i, c⟩, q1, q2, q3, q4⟩ := p
    show Wp _ _ _ [(0, .val (vTs xs)), (3, .val (vI c)), (15, .val (vI i))]
    simp only [] at q1 q2 q3 q4
    have qS : szS xs l = szL xs (l - xs.length) := by rw [szS, if_neg (by omega)]
    have q5 : ∀ h : i < xs.length, szL (xs.drop i) c = if sz xs[i] c < 0 then -1 else szL (xs.drop (i+1)) (sz xs[i] c) := fun h => by rw [List.drop_eq_getElem_cons h, szL]
    have q6 : ¬ i < xs.length → szL (xs.drop i) c = c := fun h => by rw [List.drop_eq_nil_of_le (by omega), szL]
    refine Wp.seq ?_
    refine Wp.seq ?_
    refine Wp.regionE [0, 1, 4, 5] (by simp [trim]; exact .mk _) ?_
    refine ExL.st Hz hP hnt rfl rfl (by decide) (by simp [go_sem]; exact .mk _ _) (by first | exact True.intro | exact und9 | exact und4 | (unfold r64; omega) | omega | (simp; omega)) ?_
    refine ExL.st Hz hP hnt rfl rfl (by decide) (by simp [go_sem]; exact .mk _ _) (by first | exact True.intro | exact und9 | exact und4 | (unfold r64; omega) | omega | (simp; omega)) ?_
    refine ExL.st Hz hP hnt rfl rfl (by decide) (by simp [go_sem]; exact .mk _ _) (by first | exact True.intro | exact und9 | exact und4 | (unfold r64; omega) | omega | (simp; omega)) ?_
    refine ExL.st Hz hP hnt rfl rfl (by decide) (by simp [go_sem]; exact .mk _ _) (by first | exact True.intro | exact und9 | exact und4 | (unfold r64; omega) | omega | (simp; omega)) ?_
    refine ExL.nil ?_
    refine Wp.condE (by simp [go_sem]; exact .mk _ _ _) ?_ ?_
    · intro hc2
      try simp at hc2
      refine Wp.skip ?_
      refine Wp.seq ?_
      refine Wp.block ?_
      refine Wp.seq ?_
      refine Wp.regionE [0, 1, 4, 5] (by simp [trim]; exact .mk _) ?_
      refine ExL.st Hz hP hnt rfl rfl (by decide) (by simp [go_sem]; exact .mk _ _) (by first | exact True.intro | exact und9 | exact und4 | (unfold r64; omega) | omega | (simp; omega)) ?_
      refine ExL.st Hz hP hnt rfl rfl (by decide) (by simp [go_sem]; exact .mk _ _) (by first | exact True.intro | exact und9 | exact und4 | (unfold r64; omega) | omega | (simp; omega)) ?_
      refine ExL.st Hz hP hnt rfl rfl (by decide) (by simp [go_sem, hc2]; exact .mk _ _) (by first | exact True.intro | exact und9 | exact und4 | (unfold r64; omega) | omega | (simp; omega)) ?_
      refine ExL.st Hz hP hnt rfl rfl (by decide) (by simp [go_sem]; exact .mk _ _) (by first | exact True.intro | exact und9 | exact und4 | (unfold r64; omega) | omega | (simp; omega)) ?_
      refine ExL.st Hz hP hnt rfl rfl (by decide) (by simp [go_sem]; exact .mk _ _) (by first | exact True.intro | exact und9 | exact und4 | (unfold r64; omega) | omega | (simp; omega)) ?_
      refine ExL.call (h14 xs[i] (by simp) c (by omega) (by omega)) Try.func14 hP hnt rfl rfl rfl (by decide) (by kernel_rfl) rfl (by simp [go_sem]; exact .mk _ _) (by simp [go_sem, Vsle, Vle, ACsle, ACle, ACsle.refl]) (by simp [go_sem]) ?_
      refine ExL.st Hz hP hnt rfl rfl (by decide) (by simp [go_sem]; exact .mk _ _) (by first | exact True.intro | exact und9 | exact und4 | (unfold r64; omega) | omega | (simp; omega)) ?_
      refine ExL.nil ?_
      refine Wp.seq ?_
      refine Wp.regionE [0, 1, 4, 5] (by simp [trim]; exact .mk _) ?_
      refine ExL.st Hz hP hnt rfl rfl (by decide) (by simp [go_sem]; exact .mk _ _) (by first | exact True.intro | exact und9 | exact und4 | (unfold r64; omega) | omega | (simp; omega)) ?_
      refine ExL.st Hz hP hnt rfl rfl (by decide) (by simp [go_sem]; exact .mk _ _) (by first | exact True.intro | exact und9 | exact und4 | (unfold r64; omega) | omega | (simp; omega)) ?_
      refine ExL.nil ?_
      refine Wp.condE (by simp [go_sem]; exact .mk _ _ _) ?_ ?_
      · intro hc3
        try simp at hc3
        refine Wp.seq ?_
        refine Wp.regionE [0, 1, 4, 5] (by simp [trim]; exact .mk _) ?_
        refine ExL.st Hz hP hnt rfl rfl (by decide) (by simp [go_sem]; exact .mk _ _) (by first | exact True.intro | exact und9 | exact und4 | (unfold r64; omega) | omega | (simp; omega)) ?_
        refine ExL.nil ?_
        refine Wp.ret ?_
        refine retQ.mk (by simp [go_sem]; exact .mk _ _) ?_
        (simp [Vsle, Vle, ACle, vI]; first | (rw [szS, if_pos (by omega)]; done) | (rw [qS, q4, q5 hc2, if_pos hc3]; done) | (rw [qS, q4, q6 (by omega)]; done))
      · intro hc3
        try simp at hc3
        refine Wp.skip ?_
        refine Wp.regionE [0, 1, 4, 5] (by simp [trim]; exact .mk _) ?_
        refine ExL.st Hz hP hnt rfl rfl (by decide) (by simp [go_sem]; exact .mk _ _) (by first | exact True.intro | exact und9 | exact und4 | (unfold r64; omega) | omega | (simp; omega)) ?_
        refine ExL.st Hz hP hnt rfl rfl (by decide) (by simp [go_sem]; exact .mk _ _) (by first | exact True.intro | exact und9 | exact und4 | (unfold r64; omega) | omega | (simp; omega)) ?_
        refine ExL.st Hz hP hnt rfl rfl (by decide) (by simp [go_sem]; exact .mk _ _) (by first | exact True.intro | exact und9 | exact und4 | (unfold r64; omega) | omega | (simp; omega)) ?_
        refine ExL.nil ?_
        exact ⟨⟨(i + 1, sz xs[i] c), by simp only []; omega, by simp only []; omega, by simp only []; have := sz_le xs[i] c q2; omega, by simp only []; rw [q4, q5 hc2, if_neg (by omega)]⟩, LeL.le (by simp [go_sem, LeL, AVle, Vle, ACsle, ACle]), by simp only []; omega⟩
    · intro hc2
      try simp at hc2
      refine Wp.exit ?_
      refine Wp.seq ?_
      refine Wp.regionE [0, 1, 4, 5] (by simp [trim]; exact .mk _) ?_
      refine ExL.st Hz hP hnt rfl rfl (by decide) (by simp [go_sem]; exact .mk _ _) (by first | exact True.intro | exact und9 | exact und4 | (unfold r64; omega) | omega | (simp; omega)) ?_
      refine ExL.st Hz hP hnt rfl rfl (by decide) (by simp [go_sem]; exact .mk _ _) (by first | exact True.intro | exact und9 | exact und4 | (unfold r64; omega) | omega | (simp; omega)) ?_
      refine ExL.nil ?_
      refine Wp.ret ?_
      refine retQ.mk (by simp [go_sem]; exact .mk _ _) ?_
      (simp [Vsle, Vle, ACle, vI]; first | (rw [szS, if_pos (by omega)]; done) | (rw [qS, q4, q5 hc2, if_pos hc3]; done) | (rw [qS, q4, q6 (by omega)]; done))
end Go.RF.S
