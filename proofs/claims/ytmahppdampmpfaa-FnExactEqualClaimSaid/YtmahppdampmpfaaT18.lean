/- The functions of this seat, walked in that logic. -/
import Derived.Test.YtmahppdampmpfaaT17
set_option linter.unusedVariables false
set_option linter.unusedSimpArgs false
namespace Go.RF.S
open Go Go.Proofs Go.RF
theorem w85 (k lk ln rk rn : Int) (ls rs : ByteArray) (lx rx : List Tm) (l : Int) (h0 : 0 ≤ l) (h1 : l ≤ 1048576)
    (h14 : ∀ x, x = Tm.mk lk ln ls lx ∨ x = Tm.mk rk rn rs rx → ∀ l, 0 ≤ l → l ≤ 1048576 → PC Try.prog 14 ([vT x, vI l].map .val) [vI (sz x l)] []) :
    PC Try.prog 85 ([vG ⟨k, .mk lk ln ls lx, .mk rk rn rs rx⟩, vI l].map .val) [vI (szGd ⟨k, .mk lk ln ls lx, .mk rk rn rs rx⟩ l)] [] := by
  refine PC_of Try.func85 rfl rfl Try.ntmps85 (by simp) fun E hP hnt hnp => ?_
  simp only [vG, vI, Gd.ds_mk, Tm.ds_mk, List.cons_append, List.nil_append, List.map_cons, List.map_nil, dv_raw, dv_sl, dv_ptr, dv_fn, inMap, Nat.reduceAdd]
  refine Wp.seq ?_
  refine Wp.regionE [0, 1, 2, 4] (by simp [trim]; exact .mk _) ?_
  refine ExL.ef Hz hP hnt hnp rfl (by decide) (by simp [go_sem]; exact .mk _ _) trivial ?_
  refine ExL.st Hz hP hnt rfl rfl (by decide) (by simp [go_sem]; exact .mk _ _) (by first | exact True.intro | exact und9 | exact und4 | (unfold r64; omega) | omega | (simp; omega)) ?_
  refine ExL.nil ?_
  refine Wp.seq ?_
  refine Wp.regionE [0, 1, 2, 4] (by simp [trim]; exact .mk _) ?_
  refine ExL.st Hz hP hnt rfl rfl (by decide) (by simp [go_sem]; exact .mk _ _) (by first | exact True.intro | exact und9 | exact und4 | (unfold r64; omega) | omega | (simp; omega)) ?_
  refine ExL.st Hz hP hnt rfl rfl (by decide) (by simp [go_sem]; exact .mk _ _) (by first | exact True.intro | exact und9 | exact und4 | (unfold r64; omega) | omega | (simp; omega)) ?_
  refine ExL.st Hz hP hnt rfl rfl (by decide) (by simp [go_sem]; exact .mk _ _) (by first | exact True.intro | exact und9 | exact und4 | (unfold r64; omega) | omega | (simp; omega)) ?_
  refine ExL.call (h14 (.mk lk ln ls lx) (.inl rfl) l (by omega) (by omega)) Try.func14 hP hnt rfl rfl rfl (by decide) (by kernel_rfl) rfl (by simp [go_sem]; exact .mk _ _) (by simp [go_sem, Vsle, Vle, ACsle, ACle, ACsle.refl]) (by simp [go_sem]) ?_
  refine ExL.st Hz hP hnt rfl rfl (by decide) (by simp [go_sem]; exact .mk _ _) (by first | exact True.intro | exact und9 | exact und4 | (unfold r64; omega) | omega | (simp; omega)) ?_
  refine ExL.nil ?_
  refine Wp.seq ?_
  refine Wp.seq ?_
  refine Wp.regionE [0, 1, 2, 4] (by simp [trim]; exact .mk _) ?_
  refine ExL.st Hz hP hnt rfl rfl (by decide) (by simp [go_sem]; exact .mk _ _) (by first | exact True.intro | exact und9 | exact und4 | (unfold r64; omega) | omega | (simp; omega)) ?_
  refine ExL.st Hz hP hnt rfl rfl (by decide) (by simp [go_sem]; exact .mk _ _) (by first | exact True.intro | exact und9 | exact und4 | (unfold r64; omega) | omega | (simp; omega)) ?_
  refine ExL.nil ?_
  refine Wp.condE (by simp [go_sem]; exact .mk _ _ _) ?_ ?_
  · intro hc1
    try simp at hc1
    refine Wp.seq ?_
    refine Wp.regionE [0, 1, 2, 4] (by simp [trim]; exact .mk _) ?_
    refine ExL.st Hz hP hnt rfl rfl (by decide) (by simp [go_sem]; exact .mk _ _) (by first | exact True.intro | exact und9 | exact und4 | (unfold r64; omega) | omega | (simp; omega)) ?_
    refine ExL.nil ?_
    refine Wp.ret ?_
    refine retQ.mk (by simp [go_sem]; exact .mk _ _) ?_
    (simp [Vsle, Vle, ACle, vI, szGd] <;> omega)
  · intro hc1
    try simp at hc1
    refine Wp.skip ?_
    refine Wp.seq ?_
    refine Wp.regionE [0, 1, 2, 4] (by simp [trim]; exact .mk _) ?_
    refine ExL.st Hz hP hnt rfl rfl (by decide) (by simp [go_sem]; exact .mk _ _) (by first | exact True.intro | exact und9 | exact und4 | (unfold r64; omega) | omega | (simp; omega)) ?_
    refine ExL.st Hz hP hnt rfl rfl (by decide) (by simp [go_sem]; exact .mk _ _) (by first | exact True.intro | exact und9 | exact und4 | (unfold r64; omega) | omega | (simp; omega)) ?_
    refine ExL.st Hz hP hnt rfl rfl (by decide) (by simp [go_sem]; exact .mk _ _) (by first | exact True.intro | exact und9 | exact und4 | (unfold r64; omega) | omega | (simp; omega)) ?_
    refine ExL.call (h14 (.mk rk rn rs rx) (.inr rfl) (sz (.mk lk ln ls lx) l) (by omega) (by have := sz_le (.mk lk ln ls lx) l h0; omega)) Try.func14 hP hnt rfl rfl rfl (by decide) (by kernel_rfl) rfl (by simp [go_sem]; exact .mk _ _) (by simp [go_sem, Vsle, Vle, ACsle, ACle, ACsle.refl]) (by simp [go_sem]) ?_
    refine ExL.st Hz hP hnt rfl rfl (by decide) (by simp [go_sem]; exact .mk _ _) (by first | exact True.intro | exact und9 | exact und4 | (unfold r64; omega) | omega | (simp; omega)) ?_
    refine ExL.nil ?_
    refine Wp.seq ?_
    refine Wp.seq ?_
    refine Wp.regionE [0, 1, 2, 4] (by simp [trim]; exact .mk _) ?_
    refine ExL.st Hz hP hnt rfl rfl (by decide) (by simp [go_sem]; exact .mk _ _) (by first | exact True.intro | exact und9 | exact und4 | (unfold r64; omega) | omega | (simp; omega)) ?_
    refine ExL.st Hz hP hnt rfl rfl (by decide) (by simp [go_sem]; exact .mk _ _) (by first | exact True.intro | exact und9 | exact und4 | (unfold r64; omega) | omega | (simp; omega)) ?_
    refine ExL.nil ?_
    refine Wp.condE (by simp [go_sem]; exact .mk _ _ _) ?_ ?_
    · intro hc2
      try simp at hc2
      refine Wp.seq ?_
      refine Wp.regionE [0, 1, 2, 4] (by simp [trim]; exact .mk _) ?_
      refine ExL.st Hz hP hnt rfl rfl (by decide) (by simp [go_sem]; exact .mk _ _) (by first | exact True.intro | exact und9 | exact und4 | (unfold r64; omega) | omega | (simp; omega)) ?_
      refine ExL.nil ?_
      refine Wp.ret ?_
      refine retQ.mk (by simp [go_sem]; exact .mk _ _) ?_
      (simp [Vsle, Vle, ACle, vI, szGd] <;> omega)
    · intro hc2
      try simp at hc2
      refine Wp.skip ?_
      refine Wp.seq ?_
      refine Wp.regionE [0, 1, 2, 4] (by simp [trim]; exact .mk _) ?_
      refine ExL.st Hz hP hnt rfl rfl (by decide) (by simp [go_sem]; exact .mk _ _) (by first | exact True.intro | exact und9 | exact und4 | (unfold r64; omega) | omega | (simp; omega)) ?_
      refine ExL.st Hz hP hnt rfl rfl (by decide) (by simp [go_sem]; exact .mk _ _) (by first | exact True.intro | exact und9 | exact und4 | (unfold r64; omega) | omega | (simp; omega)) ?_
      refine ExL.nil ?_
      refine Wp.ret ?_
      refine retQ.mk (by simp [go_sem]; exact .mk _ _) ?_
      (simp [Vsle, Vle, ACle, vI, szGd] <;> omega)
theorem w50 (xs : List Gd) (l : Int) (h0 : 0 ≤ l) (h1 : l ≤ 1048576) (hx : xs.length ≤ 9223372036854775807)
    (h85 : ∀ x ∈ xs, ∀ l, 0 ≤ l → l ≤ 1048576 → PC Try.prog 85 ([vG x, vI l].map .val) [vI (szGd x l)] []) :
    PC Try.prog 50 ([vGs xs, vI l].map .val) [vI (szR szGd xs l)] [] := by
  refine PC_of Try.func50 rfl rfl Try.ntmps50 (by simp) fun E hP hnt hnp => ?_
  simp only [vGs, vI, List.map_cons, List.map_nil, dv_raw, dv_sl, dv_ptr, dv_fn, inMap, Nat.reduceAdd]
  refine Wp.seq ?_
  refine Wp.regionE [0, 1, 4, 5] (by simp [trim]; exact .mk _) ?_
  refine ExL.st Hz hP hnt rfl rfl (by decide) (by simp [go_sem]; exact .mk _ _) (by first | exact True.intro | exact und9 | exact und4 | (unfold r64; omega) | omega | (simp; omega)) ?_
  refine ExL.nil ?_
  refine Wp.seq ?_
  refine Wp.regionE [0, 1, 4, 5] (by simp [trim]; exact .mk _) ?_
  refine ExL.st Hz hP hnt rfl rfl (by decide) (by simp [go_sem]; exact .mk _ _) (by first | exact True.intro | exact und9 | exact und4 | (unfold r64; omega) | omega | (simp; omega)) ?_
  refine ExL.st Hz hP hnt rfl rfl (by decide) (by simp [go_sem]; exact .mk _ _) (by first | exact True.intro | exact und9 | exact und4 | (unfold r64; omega) | omega | (simp; omega)) ?_
  refine ExL.st Hz hP hnt rfl rfl (by decide) (by simp [go_sem]; exact .mk _ _) (by first | exact True.intro | exact und9 | exact und4 | (unfold r64; omega) | omega | (simp; omega)) ?_
  refine ExL.st Hz hP hnt rfl rfl (by decide) (by simp [go_sem]; exact .mk _ _) (by first | exact True.intro | exact und9 | exact und4 | (unfold r64; omega) | omega | (simp; omega)) ?_
  refine ExL.st Hz hP hnt rfl rfl (by decide) (by simp [go_sem]; exact .mk _ _) (by first | exact True.intro | exact und9 | exact und4 | (unfold r64; omega) | omega | (simp; omega)) ?_
  refine ExL.nil ?_
  refine Wp.seq ?_
  refine Wp.seq ?_
  refine Wp.regionE [0, 1, 4, 5] (by simp [trim]; exact .mk _) ?_
  refine ExL.st Hz hP hnt rfl rfl (by decide) (by simp [go_sem]; exact .mk _ _) (by first | exact True.intro | exact und9 | exact und4 | (unfold r64; omega) | omega | (simp; omega)) ?_
  refine ExL.st Hz hP hnt rfl rfl (by decide) (by simp [go_sem]; exact .mk _ _) (by first | exact True.intro | exact und9 | exact und4 | (unfold r64; omega) | omega | (simp; omega)) ?_
  refine ExL.nil ?_
  refine Wp.condE (by simp [go_sem]; exact .mk _ _ _) ?_ ?_
  · intro hc1
    try simp at hc1
    refine Wp.seq ?_
    refine Wp.regionE [0, 1, 4, 5] (by simp [trim]; exact .mk _) ?_
    refine ExL.st Hz hP hnt rfl rfl (by decide) (by simp [go_sem]; exact .mk _ _) (by first | exact True.intro | exact und9 | exact und4 | (unfold r64; omega) | omega | (simp; omega)) ?_
    refine ExL.nil ?_
    refine Wp.ret ?_
    refine retQ.mk (by simp [go_sem]; exact .mk _ _) ?_
    (simp [Vsle, Vle, ACle, vI]; first | (rw [szR, if_pos (by omega)]; done) | (rw [qS, q4, q5 hc2, if_pos hc3]; done) | (rw [qS, q4, q6 (by omega)]; done))
  · intro hc1
    try simp at hc1
    refine Wp.skip ?_
    refine Wp.seq ?_
    refine Wp.seq ?_
    refine Wp.regionE [0, 1, 4, 5] (by simp [trim]; exact .mk _) ?_
    refine ExL.st Hz hP hnt rfl rfl (by decide) (by simp [go_sem]; exact .mk _ _) (by first | exact True.intro | exact und9 | exact und4 | (unfold r64; omega) | omega | (simp; omega)) ?_
    refine ExL.nil ?_
    refine Wp.block ?_
    refine Wp.loop (ι := { p : Nat × Int // p.1 ≤ xs.length ∧ 0 ≤ p.2 ∧ p.2 ≤ 1048576 ∧ szF szGd xs (l - xs.length) = szF szGd (xs.drop p.1) p.2 }) (fun p => [(0, .val (vGs xs)), (3, .val (vI p.1.2)), (15, .val (vI p.1.1))]) (fun p => xs.length - p.1.1) ⟨(0, l - xs.length), by simp, by simp; omega, by simp; omega, by simp⟩ (LeL.le (by simp [go_sem, LeL, AVle, Vle, ACsle, ACle])) ?_
    intro p
    obtain ⟨⟨i, c⟩, q1, q2, q3, q4⟩ := p
    show Wp _ _ _ [(0, .val (vGs xs)), (3, .val (vI c)), (15, .val (vI i))]
    simp only [] at q1 q2 q3 q4
    have qS : szR szGd xs l = szF szGd xs (l - xs.length) := by rw [szR, if_neg (by omega)]
    have q5 : ∀ h : i < xs.length, szF szGd (xs.drop i) c = if szGd xs[i] c < 0 then -1 else szF szGd (xs.drop (i+1)) (szGd xs[i] c) := fun h => szF_drop szGd xs i h c
    have q6 : ¬ i < xs.length → szF szGd (xs.drop i) c = c := fun h => by rw [List.drop_eq_nil_of_le (by omega), szF]
    refine Wp.seq ?_
    refine Wp.seq ?_
    refine Wp.regionE [0, 1, 4, 5] (by simp [trim]; exact .mk _) ?_
    refine ExL.st Hz hP hnt rfl rfl (by decide) (by simp [go_sem]; exact .mk _ _) (by first | exact True.intro | exact und9 | exact und4 | (unfold r64; omega) | omega | (simp; omega)) ?_
    refine ExL.st Hz hP hnt rfl rfl (by decide) (by simp [go_sem]; exact .mk _ _) (by first | exact True.intro | exact und9 | exact und4 | (unfold r64; omega) | omega | (simp; omega)) ?_
    refine ExL.st Hz hP hnt rfl rfl (by decide) (by simp [go_sem]; exact .mk _ _) (by first | exact True.intro | exact und9 | exact und4 | (unfold r64; omega) | omega | (simp; omega)) ?_
    refine ExL.st Hz hP hnt rfl rfl (by decide) (by simp [go_sem]; exact .mk _ _) (by first | exact True.intro | exact und9 | exact und4 | (unfold r64; omega) | omega | (simp; omega)) ?_
    refine ExL.nil ?_
    refine Wp.condE (by simp [go_sem]; exact .mk _ _ _) ?_ ?_
    · intro hc2
      try simp at hc2
      refine Wp.skip ?_
      refine Wp.seq ?_
      refine Wp.block ?_
      refine Wp.seq ?_
      refine Wp.regionE [0, 1, 4, 5] (by simp [trim]; exact .mk _) ?_
      refine ExL.st Hz hP hnt rfl rfl (by decide) (by simp [go_sem]; exact .mk _ _) (by first | exact True.intro | exact und9 | exact und4 | (unfold r64; omega) | omega | (simp; omega)) ?_
      refine ExL.st Hz hP hnt rfl rfl (by decide) (by simp [go_sem]; exact .mk _ _) (by first | exact True.intro | exact und9 | exact und4 | (unfold r64; omega) | omega | (simp; omega)) ?_
      refine ExL.st Hz hP hnt rfl rfl (by decide) (by simp [go_sem, hc2]; exact .mk _ _) (by first | exact True.intro | exact und9 | exact und4 | (unfold r64; omega) | omega | (simp; omega)) ?_
      refine ExL.st Hz hP hnt rfl rfl (by decide) (by simp [go_sem]; exact .mk _ _) (by first | exact True.intro | exact und9 | exact und4 | (unfold r64; omega) | omega | (simp; omega)) ?_
      refine ExL.st Hz hP hnt rfl rfl (by decide) (by simp [go_sem]; exact .mk _ _) (by first | exact True.intro | exact und9 | exact und4 | (unfold r64; omega) | omega | (simp; omega)) ?_
      refine ExL.call (h85 xs[i] (by simp) c (by omega) (by omega)) Try.func85 hP hnt rfl rfl rfl (by decide) (by kernel_rfl) rfl (by simp [go_sem]; exact .mk _ _) (by simp [go_sem, Vsle, Vle, ACsle, ACle, ACsle.refl]) (by simp [go_sem]) ?_
      refine ExL.st Hz hP hnt rfl rfl (by decide) (by simp [go_sem]; exact .mk _ _) (by first | exact True.intro | exact und9 | exact und4 | (unfold r64; omega) | omega | (simp; omega)) ?_
      refine ExL.nil ?_
      refine Wp.seq ?_
      refine Wp.regionE [0, 1, 4, 5] (by simp [trim]; exact .mk _) ?_
      refine ExL.st Hz hP hnt rfl rfl (by decide) (by simp [go_sem]; exact .mk _ _) (by first | exact True.intro | exact und9 | exact und4 | (unfold r64; omega) | omega | (simp; omega)) ?_
      refine ExL.st Hz hP hnt rfl rfl (by decide) (by simp [go_sem]; exact .mk _ _) (by first | exact True.intro | exact und9 | exact und4 | (unfold r64; omega) | omega | (simp; omega)) ?_
      refine ExL.nil ?_
      refine Wp.condE (by simp [go_sem]; exact .mk _ _ _) ?_ ?_
      · intro hc3
        try simp at hc3
        refine Wp.seq ?_
        refine Wp.regionE [0, 1, 4, 5] (by simp [trim]; exact .mk _) ?_
        refine ExL.st Hz hP hnt rfl rfl (by decide) (by simp [go_sem]; exact .mk _ _) (by first | exact True.intro | exact und9 | exact und4 | (unfold r64; omega) | omega | (simp; omega)) ?_
        refine ExL.nil ?_
        refine Wp.ret ?_
        refine retQ.mk (by simp [go_sem]; exact .mk _ _) ?_
        (simp [Vsle, Vle, ACle, vI]; first | (rw [szR, if_pos (by omega)]; done) | (rw [qS, q4, q5 hc2, if_pos hc3]; done) | (rw [qS, q4, q6 (by omega)]; done))
      · intro hc3
        try simp at hc3
        refine Wp.skip ?_
        refine Wp.regionE [0, 1, 4, 5] (by simp [trim]; exact .mk _) ?_
        refine ExL.st Hz hP hnt rfl rfl (by decide) (by simp [go_sem]; exact .mk _ _) (by first | exact True.intro | exact und9 | exact und4 | (unfold r64; omega) | omega | (simp; omega)) ?_
        refine ExL.st Hz hP hnt rfl rfl (by decide) (by simp [go_sem]; exact .mk _ _) (by first | exact True.intro | exact und9 | exact und4 | (unfold r64; omega) | omega | (simp; omega)) ?_
        refine ExL.st Hz hP hnt rfl rfl (by decide) (by simp [go_sem]; exact .mk _ _) (by first | exact True.intro | exact und9 | exact und4 | (unfold r64; omega) | omega | (simp; omega)) ?_
        refine ExL.nil ?_
        exact ⟨⟨(i + 1, szGd xs[i] c), hc2, by simp only []; omega, by simp only []; have := szGd_le xs[i] c q2; omega, by simp only []; rw [q4, q5 hc2, if_neg (by omega)]⟩, LeL.le (by simp [go_sem, LeL, AVle, Vle, ACsle, ACle]), by show xs.length - (i + 1) < xs.length - i; omega⟩
    · intro hc2
      try simp at hc2
      refine Wp.exit ?_
      refine Wp.seq ?_
      refine Wp.regionE [0, 1, 4, 5] (by simp [trim]; exact .mk _) ?_
      refine ExL.st Hz hP hnt rfl rfl (by decide) (by simp [go_sem]; exact .mk _ _) (by first | exact True.intro | exact und9 | exact und4 | (unfold r64; omega) | omega | (simp; omega)) ?_
      refine ExL.st Hz hP hnt rfl rfl (by decide) (by simp [go_sem]; exact .mk _ _) (by first | exact True.intro | exact und9 | exact und4 | (unfold r64; omega) | omega | (simp; omega)) ?_
      refine ExL.nil ?_
      refine Wp.ret ?_
      refine retQ.mk (by simp [go_sem]; exact .mk _ _) ?_
      (simp [Vsle, Vle, ACle, vI]; first | (rw [szR, if_pos (by omega)]; done) | (rw [qS, q4, q5 hc2, if_pos hc3]; done) | (rw [qS, q4, q6 (by omega)]; done))
theorem w87 (k lk ln rk rn : Int) (ls rs : ByteArray) (lx rx : List Tm)
    (h16 : ∀ x, x = Tm.mk lk ln ls lx ∨ x = Tm.mk rk rn rs rx → PC Try.prog 16 ([vT x].map .val) [vT x] []) :
    PC Try.prog 87 ([vG ⟨k, .mk lk ln ls lx, .mk rk rn rs rx⟩].map .val) [vG ⟨k, .mk lk ln ls lx, .mk rk rn rs rx⟩] [] := by
  refine PC_of Try.func87 rfl rfl Try.ntmps87 (by simp) fun E hP hnt hnp => ?_
  simp only [vG, Gd.ds_mk, Tm.ds_mk, List.cons_append, List.nil_append, List.map_cons, List.map_nil, dv_raw, dv_sl, dv_ptr, dv_fn, inMap, Nat.reduceAdd]
  refine Wp.seq ?_
  refine Wp.regionE [0, 1, 2, 3] (by simp [trim]; exact .mk _) ?_
  refine ExL.ef Hz hP hnt hnp rfl (by decide) (by simp [go_sem]; exact .mk _ _) trivial ?_
  refine ExL.ef Hz hP hnt hnp rfl (by decide) (by simp [go_sem]; exact .mk _ _) trivial ?_
  refine ExL.nil ?_
  refine Wp.seq ?_
  refine Wp.regionE [0, 1, 2, 3] (by simp [trim]; exact .mk _) ?_
  refine ExL.ef Hz hP hnt hnp rfl (by decide) (by simp [go_sem]; exact .mk _ _) trivial ?_
  refine ExL.nil ?_
  refine Wp.seq ?_
  refine Wp.regionE [0, 1, 2, 3] (by simp [trim]; exact .mk _) ?_
  refine ExL.st Hz hP hnt rfl rfl (by decide) (by simp [go_sem]; exact .mk _ _) (by first | exact True.intro | exact und9 | exact und4 | (unfold r64; omega) | omega | (simp; omega)) ?_
  refine ExL.st Hz hP hnt rfl rfl (by decide) (by simp [go_sem]; exact .mk _ _) (by first | exact True.intro | exact und9 | exact und4 | (unfold r64; omega) | omega | (simp; omega)) ?_
  refine ExL.st Hz hP hnt rfl rfl (by decide) (by simp [go_sem]; exact .mk _ _) (by first | exact True.intro | exact und9 | exact und4 | (unfold r64; omega) | omega | (simp; omega)) ?_
  refine ExL.ef Hz hP hnt hnp rfl (by decide) (by simp [go_sem]; exact .mk _ _) trivial ?_
  refine ExL.nil ?_
  refine Wp.seq ?_
  refine Wp.regionE [0, 1, 2, 3] (by simp [trim]; exact .mk _) ?_
  refine ExL.st Hz hP hnt rfl rfl (by decide) (by simp [go_sem]; exact .mk _ _) (by first | exact True.intro | exact und9 | exact und4 | (unfold r64; omega) | omega | (simp; omega)) ?_
  refine ExL.st Hz hP hnt rfl rfl (by decide) (by simp [go_sem]; exact .mk _ _) (by first | exact True.intro | exact und9 | exact und4 | (unfold r64; omega) | omega | (simp; omega)) ?_
  refine ExL.call (h16 (.mk lk ln ls lx) (.inl rfl)) Try.func16 hP hnt rfl rfl rfl (by decide) (by kernel_rfl) rfl (by simp [go_sem]; exact .mk _ _) (by simp [go_sem, Vsle, Vle, ACsle, ACle, ACsle.refl]) (by simp [go_sem]) ?_
  refine ExL.st Hz hP hnt rfl rfl (by decide) (by simp [go_sem]; exact .mk _ _) (by first | exact True.intro | exact und9 | exact und4 | (unfold r64; omega) | omega | (simp; omega)) ?_
  refine ExL.ef Hz hP hnt hnp rfl (by decide) (by simp [go_sem]; exact .mk _ _) trivial ?_
  refine ExL.nil ?_
  refine Wp.seq ?_
  refine Wp.regionE [0, 1, 2, 3] (by simp [trim]; exact .mk _) ?_
  refine ExL.st Hz hP hnt rfl rfl (by decide) (by simp [go_sem]; exact .mk _ _) (by first | exact True.intro | exact und9 | exact und4 | (unfold r64; omega) | omega | (simp; omega)) ?_
  refine ExL.st Hz hP hnt rfl rfl (by decide) (by simp [go_sem]; exact .mk _ _) (by first | exact True.intro | exact und9 | exact und4 | (unfold r64; omega) | omega | (simp; omega)) ?_
  refine ExL.call (h16 (.mk rk rn rs rx) (.inr rfl)) Try.func16 hP hnt rfl rfl rfl (by decide) (by kernel_rfl) rfl (by simp [go_sem]; exact .mk _ _) (by simp [go_sem, Vsle, Vle, ACsle, ACle, ACsle.refl]) (by simp [go_sem]) ?_
  refine ExL.st Hz hP hnt rfl rfl (by decide) (by simp [go_sem]; exact .mk _ _) (by first | exact True.intro | exact und9 | exact und4 | (unfold r64; omega) | omega | (simp; omega)) ?_
  refine ExL.ef Hz hP hnt hnp rfl (by decide) (by simp [go_sem]; exact .mk _ _) trivial ?_
  refine ExL.nil ?_
  refine Wp.seq ?_
  refine Wp.regionE [0, 1, 2, 3] (by simp [trim]; exact .mk _) ?_
  refine ExL.st Hz hP hnt rfl rfl (by decide) (by simp [go_sem]; exact .mk _ _) (by first | exact True.intro | exact und9 | exact und4 | (unfold r64; omega) | omega | (simp; omega)) ?_
  refine ExL.ef Hz hP hnt hnp rfl (by decide) (by simp [go_sem]; exact .mk _ _) trivial ?_
  refine ExL.nil ?_
  refine Wp.ret ?_
  refine retQ.mk (by simp [go_sem]; exact .mk _ _) ?_
  simp [go_sem, Vsle, Vle, ACle, ACsle]
theorem w89 (k lk ln rk rn : Int) (ls rs : ByteArray) (lx rx : List Tm) (k' lk' ln' rk' rn' : Int) (ls' rs' : ByteArray) (lx' rx' : List Tm)
    (h18 : ∀ x y, x = Tm.mk lk ln ls lx ∨ x = Tm.mk rk rn rs rx → PC Try.prog 18 ([vT x, vT y].map .val) [vB (eqT x y)] []) :
    PC Try.prog 89 ([vG ⟨k, .mk lk ln ls lx, .mk rk rn rs rx⟩, vG ⟨k', .mk lk' ln' ls' lx', .mk rk' rn' rs' rx'⟩].map .val) [vB (eqGd ⟨k, .mk lk ln ls lx, .mk rk rn rs rx⟩ ⟨k', .mk lk' ln' ls' lx', .mk rk' rn' rs' rx'⟩)] [] := by
  refine PC_of Try.func89 rfl rfl Try.ntmps89 (by simp) fun E hP hnt hnp => ?_
  simp only [vG, Gd.ds_mk, Tm.ds_mk, List.cons_append, List.nil_append, List.map_cons, List.map_nil, dv_raw, dv_sl, dv_ptr, dv_fn, inMap, Nat.reduceAdd]
  refine Wp.seq ?_
  refine Wp.regionE [0, 1, 2, 3, 4] (by simp [trim]; exact .mk _) ?_
  refine ExL.ef Hz hP hnt hnp rfl (by decide) (by simp [go_sem]; exact .mk _ _) trivial ?_
  refine ExL.ef Hz hP hnt hnp rfl (by decide) (by simp [go_sem]; exact .mk _ _) trivial ?_
  refine ExL.st Hz hP hnt rfl rfl (by decide) (by simp [go_sem]; exact .mk _ _) (by first | exact True.intro | exact und9 | exact und4 | (unfold r64; omega) | omega | (simp; omega)) ?_
  refine ExL.nil ?_
  refine Wp.seq ?_
  refine Wp.seq ?_
  refine Wp.regionE [0, 1, 2, 3, 4] (by simp [trim]; exact .mk _) ?_
  refine ExL.st Hz hP hnt rfl rfl (by decide) (by simp [go_sem]; exact .mk _ _) (by first | exact True.intro | exact und9 | exact und4 | (unfold r64; omega) | omega | (simp; omega)) ?_
  refine ExL.st Hz hP hnt rfl rfl (by decide) (by simp [go_sem]; exact .mk _ _) (by first | exact True.intro | exact und9 | exact und4 | (unfold r64; omega) | omega | (simp; omega)) ?_
  refine ExL.st Hz hP hnt rfl rfl (by decide) (by simp [go_sem]; exact .mk _ _) (by first | exact True.intro | exact und9 | exact und4 | (unfold r64; omega) | omega | (simp; omega)) ?_
  refine ExL.st Hz hP hnt rfl rfl (by decide) (by simp [go_sem]; exact .mk _ _) (by first | exact True.intro | exact und9 | exact und4 | (unfold r64; omega) | omega | (simp; omega)) ?_
  refine ExL.st Hz hP hnt rfl rfl (by decide) (by simp [go_sem]; exact .mk _ _) (by first | exact True.intro | exact und9 | exact und4 | (unfold r64; omega) | omega | (simp; omega)) ?_
  refine ExL.nil ?_
  refine Wp.condE (by simp [go_sem]; exact .mk _ _ _) ?_ ?_
  · intro hc1
    try simp at hc1
    refine Wp.seq ?_
    refine Wp.regionE [0, 1, 2, 3, 4] (by simp [trim]; exact .mk _) ?_
    refine ExL.st Hz hP hnt rfl rfl (by decide) (by simp [go_sem]; exact .mk _ _) (by first | exact True.intro | exact und9 | exact und4 | (unfold r64; omega) | omega | (simp; omega)) ?_
    refine ExL.nil ?_
    refine Wp.ret ?_
    refine retQ.mk (by simp [go_sem]; exact .mk _ _) ?_
    simp [go_sem, Vsle, Vle, ACle, ACsle, eqGd, *]
  · intro hc1
    try simp at hc1
    refine Wp.skip ?_
    refine Wp.seq ?_
    refine Wp.seq ?_
    refine Wp.regionE [0, 1, 2, 3, 4] (by simp [trim]; exact .mk _) ?_
    refine ExL.st Hz hP hnt rfl rfl (by decide) (by simp [go_sem]; exact .mk _ _) (by first | exact True.intro | exact und9 | exact und4 | (unfold r64; omega) | omega | (simp; omega)) ?_
    refine ExL.st Hz hP hnt rfl rfl (by decide) (by simp [go_sem]; exact .mk _ _) (by first | exact True.intro | exact und9 | exact und4 | (unfold r64; omega) | omega | (simp; omega)) ?_
    refine ExL.st Hz hP hnt rfl rfl (by decide) (by simp [go_sem]; exact .mk _ _) (by first | exact True.intro | exact und9 | exact und4 | (unfold r64; omega) | omega | (simp; omega)) ?_
    refine ExL.st Hz hP hnt rfl rfl (by decide) (by simp [go_sem]; exact .mk _ _) (by first | exact True.intro | exact und9 | exact und4 | (unfold r64; omega) | omega | (simp; omega)) ?_
    refine ExL.call (h18 (.mk lk ln ls lx) (.mk lk' ln' ls' lx') (.inl rfl)) Try.func18 hP hnt rfl rfl rfl (by decide) (by kernel_rfl) rfl (by simp [go_sem]; exact .mk _ _) (by simp [go_sem, Vsle, Vle, ACsle, ACle, ACsle.refl]) (by simp [go_sem]) ?_
    refine ExL.st Hz hP hnt rfl rfl (by decide) (by simp [go_sem]; exact .mk _ _) (by first | exact True.intro | exact und9 | exact und4 | (unfold r64; omega) | omega | (simp; omega)) ?_
    refine ExL.nil ?_
    refine Wp.condE (by simp [go_sem]; exact .mk _ _ _) ?_ ?_
    · intro hc2
      try simp at hc2
      refine Wp.seq ?_
      refine Wp.regionE [0, 1, 2, 3, 4] (by simp [trim]; exact .mk _) ?_
      refine ExL.st Hz hP hnt rfl rfl (by decide) (by simp [go_sem]; exact .mk _ _) (by first | exact True.intro | exact und9 | exact und4 | (unfold r64; omega) | omega | (simp; omega)) ?_
      refine ExL.nil ?_
      refine Wp.ret ?_
      refine retQ.mk (by simp [go_sem]; exact .mk _ _) ?_
      simp [go_sem, Vsle, Vle, ACle, ACsle, eqGd, *]
    · intro hc2
      try simp at hc2
      refine Wp.skip ?_
      refine Wp.seq ?_
      refine Wp.seq ?_
      refine Wp.regionE [0, 1, 2, 3, 4] (by simp [trim]; exact .mk _) ?_
      refine ExL.st Hz hP hnt rfl rfl (by decide) (by simp [go_sem]; exact .mk _ _) (by first | exact True.intro | exact und9 | exact und4 | (unfold r64; omega) | omega | (simp; omega)) ?_
      refine ExL.st Hz hP hnt rfl rfl (by decide) (by simp [go_sem]; exact .mk _ _) (by first | exact True.intro | exact und9 | exact und4 | (unfold r64; omega) | omega | (simp; omega)) ?_
      refine ExL.st Hz hP hnt rfl rfl (by decide) (by simp [go_sem]; exact .mk _ _) (by first | exact True.intro | exact und9 | exact und4 | (unfold r64; omega) | omega | (simp; omega)) ?_
      refine ExL.st Hz hP hnt rfl rfl (by decide) (by simp [go_sem]; exact .mk _ _) (by first | exact True.intro | exact und9 | exact und4 | (unfold r64; omega) | omega | (simp; omega)) ?_
      refine ExL.call (h18 (.mk rk rn rs rx) (.mk rk' rn' rs' rx') (.inr rfl)) Try.func18 hP hnt rfl rfl rfl (by decide) (by kernel_rfl) rfl (by simp [go_sem]; exact .mk _ _) (by simp [go_sem, Vsle, Vle, ACsle, ACle, ACsle.refl]) (by simp [go_sem]) ?_
      refine ExL.st Hz hP hnt rfl rfl (by decide) (by simp [go_sem]; exact .mk _ _) (by first | exact True.intro | exact und9 | exact und4 | (unfold r64; omega) | omega | (simp; omega)) ?_
      refine ExL.nil ?_
      refine Wp.condE (by simp [go_sem]; exact .mk _ _ _) ?_ ?_
      · intro hc3
        try simp at hc3
        refine Wp.seq ?_
        refine Wp.regionE [0, 1, 2, 3, 4] (by simp [trim]; exact .mk _) ?_
        refine ExL.st Hz hP hnt rfl rfl (by decide) (by simp [go_sem]; exact .mk _ _) (by first | exact True.intro | exact und9 | exact und4 | (unfold r64; omega) | omega | (simp; omega)) ?_
        refine ExL.nil ?_
        refine Wp.ret ?_
        refine retQ.mk (by simp [go_sem]; exact .mk _ _) ?_
        simp [go_sem, Vsle, Vle, ACle, ACsle, eqGd, *]
      · intro hc3
        try simp at hc3
        refine Wp.skip ?_
        refine Wp.seq ?_
        refine Wp.regionE [0, 1, 2, 3, 4] (by simp [trim]; exact .mk _) ?_
        refine ExL.st Hz hP hnt rfl rfl (by decide) (by simp [go_sem]; exact .mk _ _) (by first | exact True.intro | exact und9 | exact und4 | (unfold r64; omega) | omega | (simp; omega)) ?_
        refine ExL.nil ?_
        refine Wp.ret ?_
        refine retQ.mk (by simp [go_sem]; exact .mk _ _) ?_
        simp [go_sem, Vsle, Vle, ACle, ACsle, eqGd, *]
end Go.RF.S
