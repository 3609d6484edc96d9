/- The functions of this seat, walked in that logic. -/
import Derived.Test.YtmahppdampmpfaaT15
set_option linter.unusedVariables false
set_option linter.unusedSimpArgs false
namespace Go.RF.S
open Go Go.Proofs Go.RF
theorem w29 (xs : List ByteArray) (l : Int) (h0 : 0 ≤ l) (h1 : l ≤ 1048576) (hx : xs.length ≤ 9223372036854775807) (hs : ∀ s ∈ xs, s.size ≤ 9223372036854775807) :
    PC Try.prog 29 ([vSs xs, vI l].map .val) [vI (szR szSt xs l)] [] := by
  refine PC_of Try.func29 rfl rfl Try.ntmps29 (by simp) fun E hP hnt hnp => ?_
  simp only [vSs, vI, List.map_cons, List.map_nil, dv_raw, dv_sl, dv_ptr, dv_fn, inMap, Nat.reduceAdd]
  refine Wp.seq ?_
  refine Wp.regionE [0, 1, 4, 5] (by simp [trim]; exact .mk _) ?_
  refine ExL.st Hz hP hnt rfl rfl (by decide) (by simp [go_sem]; exact .mk _ _) (by first | exact True.intro | exact und9 | exact und4 | (unfold r64; omega) | omega | (simp; omega)) ?_
  refine ExL.nil ?_
  refine Wp.seq ?_
  refine Wp.regionE [0, 1, 4, 5] (by simp [trim]; exact .mk _) ?_
  refine ExL.st Hz hP hnt rfl rfl (by decide) (by simp [go_sem]; exact .mk _ _) (by first | exact True.intro | exact und9 | exact und4 | (unfold r64; omega) | omega | (simp; omega)) ?_
  refine ExL.st Hz hP hnt rfl rfl (by decide) (by simp [go_sem]; exact .mk _ _) (by first | exact True.intro | exact und9 | exact und4 | (unfold r64; omega) | omega | (simp; omega)) ?_
  refine ExL.st Hz hP hnt rfl rfl (by decide) (by simp [go_sem]; exact .mk _ _) (by first | exact True.intro | exact und9 | exact und4 | (unfold r64; omega) | omega | (simp; omega)) ?_
  refine ExL.st Hz hP hnt rfl rfl (by decide) (by simp [go_sem]; exact .mk _ _) (by first | exact True.intro | exact und9 | exact und4 | (unfold r64; omega) | omega | (simp; omega)) ?_
  refine ExL.st Hz hP hnt rfl rfl (by decide) (by simp [go_sem]; exact .mk _ _) (by first | exact True.intro | exact und9 | exact und4 | (unfold r64; omega) | omega | (simp; omega)) ?_
  refine ExL.nil ?_
  refine Wp.seq ?_
  refine Wp.seq ?_
  refine Wp.regionE [0, 1, 4, 5] (by simp [trim]; exact .mk _) ?_
  refine ExL.st Hz hP hnt rfl rfl (by decide) (by simp [go_sem]; exact .mk _ _) (by first | exact True.intro | exact und9 | exact und4 | (unfold r64; omega) | omega | (simp; omega)) ?_
  refine ExL.st Hz hP hnt rfl rfl (by decide) (by simp [go_sem]; exact .mk _ _) (by first | exact True.intro | exact und9 | exact und4 | (unfold r64; omega) | omega | (simp; omega)) ?_
  refine ExL.nil ?_
  refine Wp.condE (by simp [go_sem]; exact .mk _ _ _) ?_ ?_
  · intro hc1
    try simp at hc1
    refine Wp.seq ?_
    refine Wp.regionE [0, 1, 4, 5] (by simp [trim]; exact .mk _) ?_
    refine ExL.st Hz hP hnt rfl rfl (by decide) (by simp [go_sem]; exact .mk _ _) (by first | exact True.intro | exact und9 | exact und4 | (unfold r64; omega) | omega | (simp; omega)) ?_
    refine ExL.nil ?_
    refine Wp.ret ?_
    refine retQ.mk (by simp [go_sem]; exact .mk _ _) ?_
    (simp [Vsle, Vle, ACle, vI]; first | (rw [szR, if_pos (by omega)]; done) | (rw [qS, q4, q5 hc2, szSt, if_pos (by omega)]; done) | (rw [qS, q4, q6 (by omega)]; done))
  · intro hc1
    try simp at hc1
    refine Wp.skip ?_
    refine Wp.seq ?_
    refine Wp.seq ?_
    refine Wp.regionE [0, 1, 4, 5] (by simp [trim]; exact .mk _) ?_
    refine ExL.st Hz hP hnt rfl rfl (by decide) (by simp [go_sem]; exact .mk _ _) (by first | exact True.intro | exact und9 | exact und4 | (unfold r64; omega) | omega | (simp; omega)) ?_
    refine ExL.nil ?_
    refine Wp.block ?_
    refine Wp.loop (ι := { p : Nat × Int // p.1 ≤ xs.length ∧ 0 ≤ p.2 ∧ p.2 ≤ 1048576 ∧ szF szSt xs (l - xs.length) = szF szSt (xs.drop p.1) p.2 }) (fun p => [(0, .val (vSs xs)), (3, .val (vI p.1.2)), (15, .val (vI p.1.1))]) (fun p => xs.length - p.1.1) ⟨(0, l - xs.length), by simp, by simp; omega, by simp; omega, by simp⟩ (LeL.le (by simp [go_sem, LeL, AVle, Vle, ACsle, ACle])) ?_
    intro p
    obtain ⟨⟨i, c⟩, q1, q2, q3, q4⟩ := p
    show Wp _ _ _ [(0, .val (vSs xs)), (3, .val (vI c)), (15, .val (vI i))]
    simp only [] at q1 q2 q3 q4
    have qS : szR szSt xs l = szF szSt xs (l - xs.length) := by rw [szR, if_neg (by omega)]
    have q5 : ∀ h : i < xs.length, szF szSt (xs.drop i) c = if szSt xs[i] c < 0 then -1 else szF szSt (xs.drop (i+1)) (szSt xs[i] c) := fun h => szF_drop szSt xs i h c
    have q6 : ¬ i < xs.length → szF szSt (xs.drop i) c = c := fun h => by rw [List.drop_eq_nil_of_le (by omega), szF]
    refine Wp.seq ?_
    refine Wp.seq ?_
    refine Wp.regionE [0, 1, 4, 5] (by simp [trim]; exact .mk _) ?_
    refine ExL.st Hz hP hnt rfl rfl (by decide) (by simp [go_sem]; exact .mk _ _) (by first | exact True.intro | exact und9 | exact und4 | (unfold r64; omega) | omega | (simp; omega)) ?_
    refine ExL.st Hz hP hnt rfl rfl (by decide) (by simp [go_sem]; exact .mk _ _) (by first | exact True.intro | exact und9 | exact und4 | (unfold r64; omega) | omega | (simp; omega)) ?_
    refine ExL.st Hz hP hnt rfl rfl (by decide) (by simp [go_sem]; exact .mk _ _) (by first | exact True.intro | exact und9 | exact und4 | (unfold r64; omega) | omega | (simp; omega)) ?_
    refine ExL.st Hz hP hnt rfl rfl (by decide) (by simp [go_sem]; exact .mk _ _) (by first | exact True.intro | exact und9 | exact und4 | (unfold r64; omega) | omega | (simp; omega)) ?_
    refine ExL.nil ?_
    refine Wp.condE (by simp [go_sem]; exact .mk _ _ _) ?_ ?_
    · intro hc2
      try simp at hc2
      refine Wp.skip ?_
      refine Wp.seq ?_
      refine Wp.block ?_
      refine Wp.seq ?_
      refine Wp.regionE [0, 1, 4, 5] (by simp [trim]; exact .mk _) ?_
      refine ExL.st Hz hP hnt rfl rfl (by decide) (by simp [go_sem]; exact .mk _ _) (by first | exact True.intro | exact und9 | exact und4 | (unfold r64; omega) | omega | (simp; omega)) ?_
      refine ExL.st Hz hP hnt rfl rfl (by decide) (by simp [go_sem]; exact .mk _ _) (by first | exact True.intro | exact und9 | exact und4 | (unfold r64; omega) | omega | (simp; omega)) ?_
      refine ExL.st Hz hP hnt rfl rfl (by decide) (by simp [go_sem]; exact .mk _ _) (by first | exact True.intro | exact und9 | exact und4 | (unfold r64; omega) | omega | (simp; omega)) ?_
      refine ExL.st Hz hP hnt rfl rfl (by decide) (by simp [go_sem, hc2]; exact .mk _ _) (by first | exact True.intro | exact und9 | exact und4 | (unfold r64; omega) | omega | (simp; omega)) ?_
      refine ExL.st Hz hP hnt rfl rfl (by decide) (by simp [go_sem]; exact .mk _ _) (by first | exact True.intro | exact und9 | exact und4 | (unfold r64; omega) | omega | (simp; omega)) ?_
      refine ExL.st Hz hP hnt rfl rfl (by decide) (by simp [go_sem]; exact .mk _ _) (by first | exact True.intro | exact und9 | exact und4 | (unfold r64; omega) | omega | (simp; omega)) ?_
      refine ExL.st Hz hP hnt rfl rfl (by decide) (by simp [go_sem]; exact .mk _ _) (by (have := hs xs[i] (by simp); unfold r64; omega)) ?_
      refine ExL.st Hz hP hnt rfl rfl (by decide) (by simp [go_sem]; exact .mk _ _) (by first | exact True.intro | exact und9 | exact und4 | (unfold r64; omega) | omega | (simp; omega)) ?_
      refine ExL.nil ?_
      refine Wp.seq ?_
      refine Wp.regionE [0, 1, 4, 5] (by simp [trim]; exact .mk _) ?_
      refine ExL.st Hz hP hnt rfl rfl (by decide) (by simp [go_sem]; exact .mk _ _) (by first | exact True.intro | exact und9 | exact und4 | (unfold r64; omega) | omega | (simp; omega)) ?_
      refine ExL.st Hz hP hnt rfl rfl (by decide) (by simp [go_sem]; exact .mk _ _) (by first | exact True.intro | exact und9 | exact und4 | (unfold r64; omega) | omega | (simp; omega)) ?_
      refine ExL.nil ?_
      refine Wp.condE (by simp [go_sem]; exact .mk _ _ _) ?_ ?_
      · intro hc3
        try simp at hc3
        refine Wp.seq ?_
        refine Wp.regionE [0, 1, 4, 5] (by simp [trim]; exact .mk _) ?_
        refine ExL.st Hz hP hnt rfl rfl (by decide) (by simp [go_sem]; exact .mk _ _) (by first | exact True.intro | exact und9 | exact und4 | (unfold r64; omega) | omega | (simp; omega)) ?_
        refine ExL.nil ?_
        refine Wp.ret ?_
        refine retQ.mk (by simp [go_sem]; exact .mk _ _) ?_
        (simp [Vsle, Vle, ACle, vI]; first | (rw [szR, if_pos (by omega)]; done) | (rw [qS, q4, q5 hc2, szSt, if_pos (by omega)]; done) | (rw [qS, q4, q6 (by omega)]; done))
      · intro hc3
        try simp at hc3
        refine Wp.skip ?_
        refine Wp.regionE [0, 1, 4, 5] (by simp [trim]; exact .mk _) ?_
        refine ExL.st Hz hP hnt rfl rfl (by decide) (by simp [go_sem]; exact .mk _ _) (by first | exact True.intro | exact und9 | exact und4 | (unfold r64; omega) | omega | (simp; omega)) ?_
        refine ExL.st Hz hP hnt rfl rfl (by decide) (by simp [go_sem]; exact .mk _ _) (by first | exact True.intro | exact und9 | exact und4 | (unfold r64; omega) | omega | (simp; omega)) ?_
        refine ExL.st Hz hP hnt rfl rfl (by decide) (by simp [go_sem]; exact .mk _ _) (by first | exact True.intro | exact und9 | exact und4 | (unfold r64; omega) | omega | (simp; omega)) ?_
        refine ExL.nil ?_
        exact ⟨⟨(i + 1, szSt xs[i] c), hc2, by simp only [szSt]; omega, by simp only [szSt]; omega, by simp only []; rw [q4, q5 hc2, if_neg (by unfold szSt; omega)]⟩, LeL.le (by simp [go_sem, LeL, AVle, Vle, ACsle, ACle, szSt]), by show xs.length - (i + 1) < xs.length - i; omega⟩
    · intro hc2
      try simp at hc2
      refine Wp.exit ?_
      refine Wp.seq ?_
      refine Wp.regionE [0, 1, 4, 5] (by simp [trim]; exact .mk _) ?_
      refine ExL.st Hz hP hnt rfl rfl (by decide) (by simp [go_sem]; exact .mk _ _) (by first | exact True.intro | exact und9 | exact und4 | (unfold r64; omega) | omega | (simp; omega)) ?_
      refine ExL.st Hz hP hnt rfl rfl (by decide) (by simp [go_sem]; exact .mk _ _) (by first | exact True.intro | exact und9 | exact und4 | (unfold r64; omega) | omega | (simp; omega)) ?_
      refine ExL.nil ?_
      refine Wp.ret ?_
      refine retQ.mk (by simp [go_sem]; exact .mk _ _) ?_
      (simp [Vsle, Vle, ACle, vI]; first | (rw [szR, if_pos (by omega)]; done) | (rw [qS, q4, q5 hc2, szSt, if_pos (by omega)]; done) | (rw [qS, q4, q6 (by omega)]; done))
theorem w32 (xs : List ByteArray) (hx : xs.length ≤ 1048576) :
    PC Try.prog 32 ([vSs xs].map .val) [vSs xs] [] := by
  refine PC_of Try.func32 rfl rfl Try.ntmps32 (by simp) fun E hP hnt hnp => ?_
  simp only [vSs, vI, List.map_cons, List.map_nil, dv_raw, dv_sl, dv_ptr, dv_fn, inMap, Nat.reduceAdd]
  refine Wp.seq ?_
  refine Wp.regionE [0, 2, 3, 4] (by simp [trim]; exact .mk _) ?_
  refine ExL.st Hz hP hnt rfl rfl (by decide) (by simp [go_sem]; exact .mk _ _) (by first | exact True.intro | exact und9 | exact und4 | (unfold r64; omega) | omega | (simp; omega)) ?_
  refine ExL.nil ?_
  refine Wp.seq ?_
  refine Wp.regionE [0, 2, 3, 4] (by simp [trim]; exact .mk _) ?_
  refine ExL.st Hz hP hnt rfl rfl (by decide) (by simp [go_sem]; exact .mk _ _) (by first | exact True.intro | exact und9 | exact und4 | (unfold r64; omega) | omega | (simp; omega)) ?_
  refine ExL.st Hz hP hnt rfl rfl (by decide) (by simp [go_sem]; exact .mk _ _) (by first | exact True.intro | exact und9 | exact und4 | (unfold r64; omega) | omega | (simp; omega)) ?_
  refine ExL.ef Hz hP hnt hnp rfl (by decide) (by simp [go_sem]; exact .mk _ _) (by first | omega | (simp; omega)) ?_
  refine ExL.st Hz hP hnt rfl rfl (by decide) (by simp [go_sem]; exact .mk _ _) (by first | exact True.intro | exact und9 | exact und4 | (unfold r64; omega) | omega | (simp; omega)) ?_
  refine ExL.nil ?_
  refine Wp.seq ?_
  refine Wp.seq ?_
  refine Wp.regionE [0, 2, 3, 4] (by simp [trim]; exact .mk _) ?_
  refine ExL.st Hz hP hnt rfl rfl (by decide) (by simp [go_sem]; exact .mk _ _) (by first | exact True.intro | exact und9 | exact und4 | (unfold r64; omega) | omega | (simp; omega)) ?_
  refine ExL.nil ?_
  refine Wp.block ?_
  refine Wp.loop (ι := { p : Nat // p ≤ xs.length }) (fun p => [(0, .val (vSs xs)), (9, .val (.one (.bs 7 xs.length))), (12, .val (vI p.1)), (22, .val (.agg (mkR dsS zS xs p.1)))]) (fun p => xs.length - p.1) ⟨0, by simp⟩ (LeL.le (by simp [go_sem, LeL, AVle, Vle, ACsle, ACle, mkR_zero])) ?_
  intro p
  obtain ⟨i, q1⟩ := p
  show Wp _ _ _ [(0, .val (vSs xs)), (9, .val (.one (.bs 7 xs.length))), (12, .val (vI i)), (22, .val (.agg (mkR dsS zS xs i)))]
  have hmk : i < xs.length → i + 1 ≤ xs.length := fun h => by omega
  have zS_len : zS.length = 1 := rfl
  have hsp : ∀ h : i < xs.length, spl i [.v (.raw (.string xs[i])) false true] (mkR dsS zS xs i) = mkR dsS zS xs (i + 1) := fun h => by have := mkR_spl dsS_len zS_len xs i h; simpa [dsS, dv_raw] using this
  refine Wp.seq ?_
  refine Wp.seq ?_
  refine Wp.regionE [0, 2, 3, 4] (by simp [trim]; exact .mk _) ?_
  refine ExL.st Hz hP hnt rfl rfl (by decide) (by simp [go_sem]; exact .mk _ _) (by first | exact True.intro | exact und9 | exact und4 | (unfold r64; omega) | omega | (simp; omega)) ?_
  refine ExL.st Hz hP hnt rfl rfl (by decide) (by simp [go_sem]; exact .mk _ _) (by first | exact True.intro | exact und9 | exact und4 | (unfold r64; omega) | omega | (simp; omega)) ?_
  refine ExL.st Hz hP hnt rfl rfl (by decide) (by simp [go_sem]; exact .mk _ _) (by first | exact True.intro | exact und9 | exact und4 | (unfold r64; omega) | omega | (simp; omega)) ?_
  refine ExL.st Hz hP hnt rfl rfl (by decide) (by simp [go_sem]; exact .mk _ _) (by first | exact True.intro | exact und9 | exact und4 | (unfold r64; omega) | omega | (simp; omega)) ?_
  refine ExL.nil ?_
  refine Wp.condE (by simp [go_sem]; exact .mk _ _ _) ?_ ?_
  · intro hc1
    try simp at hc1
    refine Wp.skip ?_
    refine Wp.seq ?_
    refine Wp.block ?_
    refine Wp.regionE [0, 2, 3, 4] (by simp [trim]; exact .mk _) ?_
    refine ExL.st Hz hP hnt rfl rfl (by decide) (by simp [go_sem]; exact .mk _ _) (by first | exact True.intro | exact und9 | exact und4 | (unfold r64; omega) | omega | (simp; omega)) ?_
    refine ExL.st Hz hP hnt rfl rfl (by decide) (by simp [go_sem]; exact .mk _ _) (by first | exact True.intro | exact und9 | exact und4 | (unfold r64; omega) | omega | (simp; omega)) ?_
    refine ExL.st Hz hP hnt rfl rfl (by decide) (by simp [go_sem]; exact .mk _ _) (by first | exact True.intro | exact und9 | exact und4 | (unfold r64; omega) | omega | (simp; omega)) ?_
    refine ExL.st Hz hP hnt rfl rfl (by decide) (by simp [go_sem]; exact .mk _ _) (by first | exact True.intro | exact und9 | exact und4 | (unfold r64; omega) | omega | (simp; omega)) ?_
    refine ExL.st Hz hP hnt rfl rfl (by decide) (by simp [go_sem, hc1]; exact .mk _ _) (by first | exact True.intro | exact und9 | exact und4 | (unfold r64; omega) | omega | (simp; omega)) ?_
    refine ExL.st Hz hP hnt rfl rfl (by decide) (by simp [go_sem]; exact .mk _ _) (by first | exact True.intro | exact und9 | exact und4 | (unfold r64; omega) | omega | (simp; omega)) ?_
    refine ExL.st Hz hP hnt rfl rfl (by decide) (by simp [go_sem]; exact .mk _ _) (by first | exact True.intro | exact und9 | exact und4 | (unfold r64; omega) | omega | (simp; omega)) ?_
    refine ExL.ef Hz hP hnt hnp rfl (by decide) (by simp [go_sem, hmk hc1, mkR_len dsS_len zS_len xs i q1, hsp hc1]; exact .mk _ _) trivial ?_
    refine ExL.nil ?_
    refine Wp.regionE [0, 2, 3, 4] (by simp [trim]; exact .mk _) ?_
    refine ExL.st Hz hP hnt rfl rfl (by decide) (by simp [go_sem]; exact .mk _ _) (by first | exact True.intro | exact und9 | exact und4 | (unfold r64; omega) | omega | (simp; omega)) ?_
    refine ExL.st Hz hP hnt rfl rfl (by decide) (by simp [go_sem]; exact .mk _ _) (by first | exact True.intro | exact und9 | exact und4 | (unfold r64; omega) | omega | (simp; omega)) ?_
    refine ExL.st Hz hP hnt rfl rfl (by decide) (by simp [go_sem]; exact .mk _ _) (by first | exact True.intro | exact und9 | exact und4 | (unfold r64; omega) | omega | (simp; omega)) ?_
    refine ExL.nil ?_
    exact ⟨⟨i + 1, hc1⟩, LeL.le (by simp [go_sem, LeL, AVle, Vle, ACsle, ACle]), by show xs.length - (i + 1) < xs.length - i; omega⟩
  · intro hc1
    try simp at hc1
    refine Wp.exit ?_
    obtain rfl : i = xs.length := by omega
    refine Wp.freeze 3 7 xs.length 1 hnp (by decide) (by simp [look]) (by simp [look]) (dsOf_mkR xs) (mkR_len dsS_len zS_len xs _ (Nat.le_refl _)) (by unfold maxLen; omega) (by simp only [chunk_R dsS_len]; simp [go_sem]; exact .mk _) ?_
    refine Wp.seq ?_
    refine Wp.regionE [0, 2, 3, 4] (by simp [trim]; exact .mk _) ?_
    refine ExL.st Hz hP hnt rfl rfl (by decide) (by simp [go_sem]; exact .mk _ _) (by first | exact True.intro | exact und9 | exact und4 | (unfold r64; omega) | omega | (simp; omega)) ?_
    refine ExL.st Hz hP hnt rfl rfl (by decide) (by simp [go_sem]; exact .mk _ _) (by first | exact True.intro | exact und9 | exact und4 | (unfold r64; omega) | omega | (simp; omega)) ?_
    refine ExL.nil ?_
    refine Wp.ret ?_
    refine retQ.mk (by simp [go_sem]; exact .mk _ _) ?_
    simp [go_sem, Vsle, Vle, ACle]
theorem w35 (xs ys : List ByteArray) (hx : xs.length ≤ 281474976710656) :
    PC Try.prog 35 ([vSs xs, vSs ys].map .val) [vB (eqR eqSt xs ys)] [] := by
  refine PC_of Try.func35 rfl rfl Try.ntmps35 (by simp) fun E hP hnt hnp => ?_
  simp only [vSs, vI, List.map_cons, List.map_nil, dv_raw, dv_sl, dv_ptr, dv_fn, inMap, Nat.reduceAdd]
  refine Wp.seq ?_
  refine Wp.regionE [0, 1, 4, 5] (by simp [trim]; exact .mk _) ?_
  refine ExL.st Hz hP hnt rfl rfl (by decide) (by simp [go_sem]; exact .mk _ _) (by first | exact True.intro | exact und9 | exact und4 | (unfold r64; omega) | omega | (simp; omega)) ?_
  refine ExL.nil ?_
  refine Wp.seq ?_
  refine Wp.seq ?_
  refine Wp.regionE [0, 1, 4, 5] (by simp [trim]; exact .mk _) ?_
  refine ExL.st Hz hP hnt rfl rfl (by decide) (by simp [go_sem]; exact .mk _ _) (by first | exact True.intro | exact und9 | exact und4 | (unfold r64; omega) | omega | (simp; omega)) ?_
  refine ExL.st Hz hP hnt rfl rfl (by decide) (by simp [go_sem]; exact .mk _ _) (by first | exact True.intro | exact und9 | exact und4 | (unfold r64; omega) | omega | (simp; omega)) ?_
  refine ExL.st Hz hP hnt rfl rfl (by decide) (by simp [go_sem]; exact .mk _ _) (by first | exact True.intro | exact und9 | exact und4 | (unfold r64; omega) | omega | (simp; omega)) ?_
  refine ExL.st Hz hP hnt rfl rfl (by decide) (by simp [go_sem]; exact .mk _ _) (by first | exact True.intro | exact und9 | exact und4 | (unfold r64; omega) | omega | (simp; omega)) ?_
  refine ExL.st Hz hP hnt rfl rfl (by decide) (by simp [go_sem]; exact .mk _ _) (by first | exact True.intro | exact und9 | exact und4 | (unfold r64; omega) | omega | (simp; omega)) ?_
  refine ExL.nil ?_
  refine Wp.condE (by simp [go_sem]; exact .mk _ _ _) ?_ ?_
  · intro hc1
    try simp at hc1
    refine Wp.seq ?_
    refine Wp.regionE [0, 1, 4, 5] (by simp [trim]; exact .mk _) ?_
    refine ExL.st Hz hP hnt rfl rfl (by decide) (by simp [go_sem]; exact .mk _ _) (by first | exact True.intro | exact und9 | exact und4 | (unfold r64; omega) | omega | (simp; omega)) ?_
    refine ExL.nil ?_
    refine Wp.ret ?_
    refine retQ.mk (by simp [go_sem]; exact .mk _ _) ?_
    first | (have hne : ¬ xs.length = ys.length := (by omega); simp [go_sem, Vsle, Vle, ACle, eqR, hne]; done) | (simp [go_sem, Vsle, Vle, ACle, eqR, q2, eqF_drop eqSt xs ys i hc2 (by omega), hlen, hc3, eqSt]; done) | (simp [go_sem, Vsle, Vle, ACle, eqR, q2, hlen]; rw [List.drop_eq_nil_of_le (by omega)]; simp [eqF])
  · intro hc1
    try simp at hc1
    refine Wp.skip ?_
    refine Wp.seq ?_
    refine Wp.seq ?_
    refine Wp.regionE [0, 1, 4, 5] (by simp [trim]; exact .mk _) ?_
    refine ExL.st Hz hP hnt rfl rfl (by decide) (by simp [go_sem]; exact .mk _ _) (by first | exact True.intro | exact und9 | exact und4 | (unfold r64; omega) | omega | (simp; omega)) ?_
    refine ExL.nil ?_
    refine Wp.block ?_
    refine Wp.loop (ι := { p : Nat // p ≤ xs.length ∧ eqF eqSt xs ys = eqF eqSt (xs.drop p) (ys.drop p) }) (fun p => [(0, .val (vSs xs)), (3, .val (vSs ys)), (15, .val (vI p.1))]) (fun p => xs.length - p.1) ⟨0, by simp, by simp⟩ (LeL.le (by simp [go_sem, LeL, AVle, Vle, ACsle, ACle])) ?_
    intro p
    obtain ⟨i, q1, q2⟩ := p
    show Wp _ _ _ [(0, .val (vSs xs)), (3, .val (vSs ys)), (15, .val (vI i))]
    have hlen : xs.length = ys.length := by omega
    have hlt : i < xs.length → i < ys.length := fun h => by omega
    refine Wp.seq ?_
    refine Wp.seq ?_
    refine Wp.regionE [0, 1, 4, 5] (by simp [trim]; exact .mk _) ?_
    refine ExL.st Hz hP hnt rfl rfl (by decide) (by simp [go_sem]; exact .mk _ _) (by first | exact True.intro | exact und9 | exact und4 | (unfold r64; omega) | omega | (simp; omega)) ?_
    refine ExL.st Hz hP hnt rfl rfl (by decide) (by simp [go_sem]; exact .mk _ _) (by first | exact True.intro | exact und9 | exact und4 | (unfold r64; omega) | omega | (simp; omega)) ?_
    refine ExL.st Hz hP hnt rfl rfl (by decide) (by simp [go_sem]; exact .mk _ _) (by first | exact True.intro | exact und9 | exact und4 | (unfold r64; omega) | omega | (simp; omega)) ?_
    refine ExL.st Hz hP hnt rfl rfl (by decide) (by simp [go_sem]; exact .mk _ _) (by first | exact True.intro | exact und9 | exact und4 | (unfold r64; omega) | omega | (simp; omega)) ?_
    refine ExL.nil ?_
    refine Wp.condE (by simp [go_sem]; exact .mk _ _ _) ?_ ?_
    · intro hc2
      try simp at hc2
      refine Wp.skip ?_
      refine Wp.seq ?_
      refine Wp.block ?_
      refine Wp.seq ?_
      refine Wp.drawE [0, 1, 4, 5] 8 (by rw [hP]; exact mixed) (by kernel_rfl) (by simp [trim]; exact .mk _) ?_
      refine ExS.st Hz hP hnt rfl rfl (by decide) (by simp [go_sem]; exact .mk _ _) (by first | exact True.intro | exact und9 | exact und4 | (unfold r64; omega) | omega | (simp; omega)) ?_
      refine ExS.st Hz hP hnt rfl rfl (by decide) (by simp [go_sem]; exact .mk _ _) (by first | exact True.intro | exact und9 | exact und4 | (unfold r64; omega) | omega | (simp; omega)) ?_
      refine ExS.st Hz hP hnt rfl rfl (by decide) (by simp [go_sem, hc2]; exact .mk _ _) (by first | exact True.intro | exact und9 | exact und4 | (unfold r64; omega) | omega | (simp; omega)) ?_
      refine ExS.st Hz hP hnt rfl rfl (by decide) (by simp [go_sem]; exact .mk _ _) (by first | exact True.intro | exact und9 | exact und4 | (unfold r64; omega) | omega | (simp; omega)) ?_
      refine ExS.st Hz hP hnt rfl rfl (by decide) (by simp [go_sem]; exact .mk _ _) (by first | exact True.intro | exact und9 | exact und4 | (unfold r64; omega) | omega | (simp; omega)) ?_
      refine ExS.st Hz hP hnt rfl rfl (by decide) (by simp [go_sem]; exact .mk _ _) (by first | exact True.intro | exact und9 | exact und4 | (unfold r64; omega) | omega | (simp; omega)) ?_
      refine ExS.st Hz hP hnt rfl rfl (by decide) (by simp [go_sem, hc2, hlt]; exact .mk _ _) (by first | exact True.intro | exact und9 | exact und4 | (unfold r64; omega) | omega | (simp; omega)) ?_
      refine ExS.st Hz hP hnt rfl rfl (by decide) (by simp [go_sem]; exact .mk _ _) (by first | exact True.intro | exact und9 | exact und4 | (unfold r64; omega) | omega | (simp; omega)) ?_
      refine ExS.nil ?_
      refine ExL.st Hz hP hnt rfl rfl (by decide) (by simp [go_sem]; exact .mk _ _) (by first | exact True.intro | exact und9 | exact und4 | (unfold r64; omega) | omega | (simp; omega)) ?_
      refine ExL.nil ?_
      refine Wp.condE (by simp [go_sem]; exact .mk _ _ _) ?_ ?_
      · intro hc3
        try simp at hc3
        refine Wp.seq ?_
        refine Wp.regionE [0, 1, 4, 5] (by simp [trim]; exact .mk _) ?_
        refine ExL.st Hz hP hnt rfl rfl (by decide) (by simp [go_sem]; exact .mk _ _) (by first | exact True.intro | exact und9 | exact und4 | (unfold r64; omega) | omega | (simp; omega)) ?_
        refine ExL.nil ?_
        refine Wp.ret ?_
        refine retQ.mk (by simp [go_sem]; exact .mk _ _) ?_
        first | (have hne : ¬ xs.length = ys.length := (by omega); simp [go_sem, Vsle, Vle, ACle, eqR, hne]; done) | (simp [go_sem, Vsle, Vle, ACle, eqR, q2, eqF_drop eqSt xs ys i hc2 (by omega), hlen, hc3, eqSt]; done) | (simp [go_sem, Vsle, Vle, ACle, eqR, q2, hlen]; rw [List.drop_eq_nil_of_le (by omega)]; simp [eqF])
      · intro hc3
        try simp at hc3
        refine Wp.skip ?_
        refine Wp.regionE [0, 1, 4, 5] (by simp [trim]; exact .mk _) ?_
        refine ExL.st Hz hP hnt rfl rfl (by decide) (by simp [go_sem]; exact .mk _ _) (by first | exact True.intro | exact und9 | exact und4 | (unfold r64; omega) | omega | (simp; omega)) ?_
        refine ExL.st Hz hP hnt rfl rfl (by decide) (by simp [go_sem]; exact .mk _ _) (by first | exact True.intro | exact und9 | exact und4 | (unfold r64; omega) | omega | (simp; omega)) ?_
        refine ExL.st Hz hP hnt rfl rfl (by decide) (by simp [go_sem]; exact .mk _ _) (by first | exact True.intro | exact und9 | exact und4 | (unfold r64; omega) | omega | (simp; omega)) ?_
        refine ExL.nil ?_
        exact ⟨⟨i + 1, hc2, by rw [q2, eqF_drop eqSt xs ys i hc2 (by omega)]; simp [eqSt, hc3]⟩, LeL.le (by simp [go_sem, LeL, AVle, Vle, ACsle, ACle]), by show xs.length - (i + 1) < xs.length - i; omega⟩
    · intro hc2
      try simp at hc2
      refine Wp.exit ?_
      refine Wp.seq ?_
      refine Wp.regionE [0, 1, 4, 5] (by simp [trim]; exact .mk _) ?_
      refine ExL.st Hz hP hnt rfl rfl (by decide) (by simp [go_sem]; exact .mk _ _) (by first | exact True.intro | exact und9 | exact und4 | (unfold r64; omega) | omega | (simp; omega)) ?_
      refine ExL.nil ?_
      refine Wp.ret ?_
      refine retQ.mk (by simp [go_sem]; exact .mk _ _) ?_
      first | (have hne : ¬ xs.length = ys.length := (by omega); simp [go_sem, Vsle, Vle, ACle, eqR, hne]; done) | (simp [go_sem, Vsle, Vle, ACle, eqR, q2, eqF_drop eqSt xs ys i hc2 (by omega), hlen, hc3, eqSt]; done) | (simp [go_sem, Vsle, Vle, ACle, eqR, q2, hlen]; rw [List.drop_eq_nil_of_le (by omega)]; simp [eqF])
theorem w51 (xs ys : List ByteArray) (hx : xs.length ≤ 281474976710656) :
    PC Try.prog 51 ([vSs xs, vSs ys].map .val) [vB (eqR eqSt xs ys)] [] := by
  refine PC_of Try.func51 rfl rfl Try.ntmps51 (by simp) fun E hP hnt hnp => ?_
  simp only [vSs, vI, List.map_cons, List.map_nil, dv_raw, dv_sl, dv_ptr, dv_fn, inMap, Nat.reduceAdd]
  refine Wp.seq ?_
  refine Wp.regionE [0, 1, 4, 5] (by simp [trim]; exact .mk _) ?_
  refine ExL.st Hz hP hnt rfl rfl (by decide) (by simp [go_sem]; exact .mk _ _) (by first | exact True.intro | exact und9 | exact und4 | (unfold r64; omega) | omega | (simp; omega)) ?_
  refine ExL.nil ?_
  refine Wp.seq ?_
  refine Wp.seq ?_
  refine Wp.regionE [0, 1, 4, 5] (by simp [trim]; exact .mk _) ?_
  refine ExL.st Hz hP hnt rfl rfl (by decide) (by simp [go_sem]; exact .mk _ _) (by first | exact True.intro | exact und9 | exact und4 | (unfold r64; omega) | omega | (simp; omega)) ?_
  refine ExL.st Hz hP hnt rfl rfl (by decide) (by simp [go_sem]; exact .mk _ _) (by first | exact True.intro | exact und9 | exact und4 | (unfold r64; omega) | omega | (simp; omega)) ?_
  refine ExL.st Hz hP hnt rfl rfl (by decide) (by simp [go_sem]; exact .mk _ _) (by first | exact True.intro | exact und9 | exact und4 | (unfold r64; omega) | omega | (simp; omega)) ?_
  refine ExL.st Hz hP hnt rfl rfl (by decide) (by simp [go_sem]; exact .mk _ _) (by first | exact True.intro | exact und9 | exact und4 | (unfold r64; omega) | omega | (simp; omega)) ?_
  refine ExL.st Hz hP hnt rfl rfl (by decide) (by simp [go_sem]; exact .mk _ _) (by first | exact True.intro | exact und9 | exact und4 | (unfold r64; omega) | omega | (simp; omega)) ?_
  refine ExL.nil ?_
  refine Wp.condE (by simp [go_sem]; exact .mk _ _ _) ?_ ?_
  · intro hc1
    try simp at hc1
    refine Wp.seq ?_
    refine Wp.regionE [0, 1, 4, 5] (by simp [trim]; exact .mk _) ?_
    refine ExL.st Hz hP hnt rfl rfl (by decide) (by simp [go_sem]; exact .mk _ _) (by first | exact True.intro | exact und9 | exact und4 | (unfold r64; omega) | omega | (simp; omega)) ?_
    refine ExL.nil ?_
    refine Wp.ret ?_
    refine retQ.mk (by simp [go_sem]; exact .mk _ _) ?_
    first | (have hne : ¬ xs.length = ys.length := (by omega); simp [go_sem, Vsle, Vle, ACle, eqR, hne]; done) | (simp [go_sem, Vsle, Vle, ACle, eqR, q2, eqF_drop eqSt xs ys i hc2 (by omega), hlen, hc3, eqSt]; done) | (simp [go_sem, Vsle, Vle, ACle, eqR, q2, hlen]; rw [List.drop_eq_nil_of_le (by omega)]; simp [eqF])
  · intro hc1
    try simp at hc1
    refine Wp.skip ?_
    refine Wp.seq ?_
    refine Wp.seq ?_
    refine Wp.regionE [0, 1, 4, 5] (by simp [trim]; exact .mk _) ?_
    refine ExL.st Hz hP hnt rfl rfl (by decide) (by simp [go_sem]; exact .mk _ _) (by first | exact True.intro | exact und9 | exact und4 | (unfold r64; omega) | omega | (simp; omega)) ?_
    refine ExL.nil ?_
    refine Wp.block ?_
    refine Wp.loop (ι := { p : Nat // p ≤ xs.length ∧ eqF eqSt xs ys = eqF eqSt (xs.drop p) (ys.drop p) }) (fun p => [(0, .val (vSs xs)), (3, .val (vSs ys)), (15, .val (vI p.1))]) (fun p => xs.length - p.1) ⟨0, by simp, by simp⟩ (LeL.le (by simp [go_sem, LeL, AVle, Vle, ACsle, ACle])) ?_
    intro p
    obtain ⟨i, q1, q2⟩ := p
    show Wp _ _ _ [(0, .val (vSs xs)), (3, .val (vSs ys)), (15, .val (vI i))]
    have hlen : xs.length = ys.length := by omega
    have hlt : i < xs.length → i < ys.length := fun h => by omega
    refine Wp.seq ?_
    refine Wp.seq ?_
    refine Wp.regionE [0, 1, 4, 5] (by simp [trim]; exact .mk _) ?_
    refine ExL.st Hz hP hnt rfl rfl (by decide) (by simp [go_sem]; exact .mk _ _) (by first | exact True.intro | exact und9 | exact und4 | (unfold r64; omega) | omega | (simp; omega)) ?_
    refine ExL.st Hz hP hnt rfl rfl (by decide) (by simp [go_sem]; exact .mk _ _) (by first | exact True.intro | exact und9 | exact und4 | (unfold r64; omega) | omega | (simp; omega)) ?_
    refine ExL.st Hz hP hnt rfl rfl (by decide) (by simp [go_sem]; exact .mk _ _) (by first | exact True.intro | exact und9 | exact und4 | (unfold r64; omega) | omega | (simp; omega)) ?_
    refine ExL.st Hz hP hnt rfl rfl (by decide) (by simp [go_sem]; exact .mk _ _) (by first | exact True.intro | exact und9 | exact und4 | (unfold r64; omega) | omega | (simp; omega)) ?_
    refine ExL.nil ?_
    refine Wp.condE (by simp [go_sem]; exact .mk _ _ _) ?_ ?_
    · intro hc2
      try simp at hc2
      refine Wp.skip ?_
      refine Wp.seq ?_
      refine Wp.block ?_
      refine Wp.seq ?_
      refine Wp.drawE [0, 1, 4, 5] 8 (by rw [hP]; exact mixed) (by kernel_rfl) (by simp [trim]; exact .mk _) ?_
      refine ExS.st Hz hP hnt rfl rfl (by decide) (by simp [go_sem]; exact .mk _ _) (by first | exact True.intro | exact und9 | exact und4 | (unfold r64; omega) | omega | (simp; omega)) ?_
      refine ExS.st Hz hP hnt rfl rfl (by decide) (by simp [go_sem]; exact .mk _ _) (by first | exact True.intro | exact und9 | exact und4 | (unfold r64; omega) | omega | (simp; omega)) ?_
      refine ExS.st Hz hP hnt rfl rfl (by decide) (by simp [go_sem, hc2]; exact .mk _ _) (by first | exact True.intro | exact und9 | exact und4 | (unfold r64; omega) | omega | (simp; omega)) ?_
      refine ExS.st Hz hP hnt rfl rfl (by decide) (by simp [go_sem]; exact .mk _ _) (by first | exact True.intro | exact und9 | exact und4 | (unfold r64; omega) | omega | (simp; omega)) ?_
      refine ExS.st Hz hP hnt rfl rfl (by decide) (by simp [go_sem]; exact .mk _ _) (by first | exact True.intro | exact und9 | exact und4 | (unfold r64; omega) | omega | (simp; omega)) ?_
      refine ExS.st Hz hP hnt rfl rfl (by decide) (by simp [go_sem]; exact .mk _ _) (by first | exact True.intro | exact und9 | exact und4 | (unfold r64; omega) | omega | (simp; omega)) ?_
      refine ExS.st Hz hP hnt rfl rfl (by decide) (by simp [go_sem, hc2, hlt]; exact .mk _ _) (by first | exact True.intro | exact und9 | exact und4 | (unfold r64; omega) | omega | (simp; omega)) ?_
      refine ExS.st Hz hP hnt rfl rfl (by decide) (by simp [go_sem]; exact .mk _ _) (by first | exact True.intro | exact und9 | exact und4 | (unfold r64; omega) | omega | (simp; omega)) ?_
      refine ExS.nil ?_
      refine ExL.st Hz hP hnt rfl rfl (by decide) (by simp [go_sem]; exact .mk _ _) (by first | exact True.intro | exact und9 | exact und4 | (unfold r64; omega) | omega | (simp; omega)) ?_
      refine ExL.nil ?_
      refine Wp.condE (by simp [go_sem]; exact .mk _ _ _) ?_ ?_
      · intro hc3
        try simp at hc3
        refine Wp.seq ?_
        refine Wp.regionE [0, 1, 4, 5] (by simp [trim]; exact .mk _) ?_
        refine ExL.st Hz hP hnt rfl rfl (by decide) (by simp [go_sem]; exact .mk _ _) (by first | exact True.intro | exact und9 | exact und4 | (unfold r64; omega) | omega | (simp; omega)) ?_
        refine ExL.nil ?_
        refine Wp.ret ?_
        refine retQ.mk (by simp [go_sem]; exact .mk _ _) ?_
        first | (have hne : ¬ xs.length = ys.length := (by omega); simp [go_sem, Vsle, Vle, ACle, eqR, hne]; done) | (simp [go_sem, Vsle, Vle, ACle, eqR, q2, eqF_drop eqSt xs ys i hc2 (by omega), hlen, hc3, eqSt]; done) | (simp [go_sem, Vsle, Vle, ACle, eqR, q2, hlen]; rw [List.drop_eq_nil_of_le (by omega)]; simp [eqF])
      · intro hc3
        try simp at hc3
        refine Wp.skip ?_
        refine Wp.regionE [0, 1, 4, 5] (by simp [trim]; exact .mk _) ?_
        refine ExL.st Hz hP hnt rfl rfl (by decide) (by simp [go_sem]; exact .mk _ _) (by first | exact True.intro | exact und9 | exact und4 | (unfold r64; omega) | omega | (simp; omega)) ?_
        refine ExL.st Hz hP hnt rfl rfl (by decide) (by simp [go_sem]; exact .mk _ _) (by first | exact True.intro | exact und9 | exact und4 | (unfold r64; omega) | omega | (simp; omega)) ?_
        refine ExL.st Hz hP hnt rfl rfl (by decide) (by simp [go_sem]; exact .mk _ _) (by first | exact True.intro | exact und9 | exact und4 | (unfold r64; omega) | omega | (simp; omega)) ?_
        refine ExL.nil ?_
        exact ⟨⟨i + 1, hc2, by rw [q2, eqF_drop eqSt xs ys i hc2 (by omega)]; simp [eqSt, hc3]⟩, LeL.le (by simp [go_sem, LeL, AVle, Vle, ACsle, ACle]), by show xs.length - (i + 1) < xs.length - i; omega⟩
    · intro hc2
      try simp at hc2
      refine Wp.exit ?_
      refine Wp.seq ?_
      refine Wp.regionE [0, 1, 4, 5] (by simp [trim]; exact .mk _) ?_
      refine ExL.st Hz hP hnt rfl rfl (by decide) (by simp [go_sem]; exact .mk _ _) (by first | exact True.intro | exact und9 | exact und4 | (unfold r64; omega) | omega | (simp; omega)) ?_
      refine ExL.nil ?_
      refine Wp.ret ?_
      refine retQ.mk (by simp [go_sem]; exact .mk _ _) ?_
      first | (have hne : ¬ xs.length = ys.length := (by omega); simp [go_sem, Vsle, Vle, ACle, eqR, hne]; done) | (simp [go_sem, Vsle, Vle, ACle, eqR, q2, eqF_drop eqSt xs ys i hc2 (by omega), hlen, hc3, eqSt]; done) | (simp [go_sem, Vsle, Vle, ACle, eqR, q2, hlen]; rw [List.drop_eq_nil_of_le (by omega)]; simp [eqF])
end Go.RF.S
