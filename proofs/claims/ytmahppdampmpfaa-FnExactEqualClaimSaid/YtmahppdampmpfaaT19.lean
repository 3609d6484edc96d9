/- The functions of this seat, walked in that logic. -/
import Derived.Test.YtmahppdampmpfaaT18
set_option linter.unusedVariables false
set_option linter.unusedSimpArgs false
namespace Go.RF
theorem spl_full {α : Type} : ∀ (ys cs : List α), ys.length = cs.length → spl 0 ys cs = ys
  | [], [], _ => rfl
  | y :: ys, c :: cs, h => by simp only [spl]; rw [spl_full ys cs (by simpa using h)]
  | [], _ :: _, h => by simp at h
  | _ :: _, [], h => by simp at h
end Go.RF
namespace Go.RF
def mkG (xs : List Gd) (i : Nat) : List AC := mkR Gd.ds z9 xs i
theorem dsOf_mkG (xs : List Gd) : dsOf (mkG xs xs.length) = some (xs.flatMap Gd.ds) := dsOf_mkR xs
theorem mkG_len (xs : List Gd) (i : Nat) (h : i ≤ xs.length) : (mkG xs i).length = xs.length * 9 := mkR_len Gd.ds_len rfl xs i h
theorem mkG_zero (xs : List Gd) : mkG xs 0 = (List.replicate xs.length z9).flatten := mkR_zero xs
end Go.RF
namespace Go.RF.S
open Go Go.Proofs Go.RF
@[go_sem] theorem spl_G (g : Gd) (a b c d e f h i j : AC) : spl 0 (g.ds.map dv) [a, b, c, d, e, f, h, i, j] = g.ds.map dv := spl_full _ _ (by simp [Gd.ds_len])
theorem w54 (xs : List Gd) (hx : xs.length ≤ 1048576)
    (h87 : ∀ x ∈ xs, PC Try.prog 87 ([vG x].map .val) [vG x] []) :
    PC Try.prog 54 ([vGs xs].map .val) [vGs xs] [] := by
  refine PC_of Try.func54 rfl rfl Try.ntmps54 (by simp) fun E hP hnt hnp => ?_
  simp only [vGs, vI, List.map_cons, List.map_nil, dv_raw, dv_sl, dv_ptr, dv_fn, inMap, Nat.reduceAdd]
  refine Wp.seq ?_
  refine Wp.regionE [0, 2, 3, 4] (by simp [trim]; exact .mk _) ?_
  refine ExL.st Hz hP hnt rfl rfl (by decide) (by simp [go_sem]; exact .mk _ _) (by first | exact True.intro | exact und9 | exact und4 | (unfold r64; omega) | omega | (simp; omega)) ?_
  refine ExL.nil ?_
  refine Wp.seq ?_
  refine Wp.regionE [0, 2, 3, 4] (by simp [trim]; exact .mk _) ?_
  refine ExL.st Hz hP hnt rfl rfl (by decide) (by simp [go_sem]; exact .mk _ _) (by first | exact True.intro | exact und9 | exact und4 | (unfold r64; omega) | omega | (simp; omega)) ?_
  refine ExL.st Hz hP hnt rfl rfl (by decide) (by simp [go_sem]; exact .mk _ _) (by first | exact True.intro | exact und9 | exact und4 | (unfold r64; omega) | omega | (simp; omega)) ?_
  refine ExL.ef Hz hP hnt hnp rfl (by decide) (by simp [go_sem]; exact .mk _ _) (by first | omega | (simp; omega)) ?_
  refine ExL.st Hz hP hnt rfl rfl (by decide) (by simp [go_sem]; exact .mk _ _) (by first | exact True.intro | exact und9 | exact und4 | (unfold r64; omega) | omega | (simp; omega)) ?_
  refine ExL.nil ?_
  refine Wp.seq ?_
  refine Wp.seq ?_
  refine Wp.regionE [0, 2, 3, 4] (by simp [trim]; exact .mk _) ?_
  refine ExL.st Hz hP hnt rfl rfl (by decide) (by simp [go_sem]; exact .mk _ _) (by first | exact True.intro | exact und9 | exact und4 | (unfold r64; omega) | omega | (simp; omega)) ?_
  refine ExL.nil ?_
  refine Wp.block ?_
  refine Wp.loop (ι := { p : Nat // p ≤ xs.length }) (fun p => [(0, .val (vGs xs)), (9, .val (.one (.bs 7 xs.length))), (12, .val (vI p.1)), (22, .val (.agg (mkG xs p.1)))]) (fun p => xs.length - p.1) ⟨0, by simp⟩ (LeL.le (by simp [go_sem, LeL, AVle, Vle, ACsle, ACle, mkG_zero])) ?_
  intro p
  obtain ⟨i, q1⟩ := p
  show Wp _ _ _ [(0, .val (vGs xs)), (9, .val (.one (.bs 7 xs.length))), (12, .val (vI i)), (22, .val (.agg (mkG xs i)))]
  have hmk : i < xs.length → i * 9 + 9 ≤ xs.length * 9 := fun h => by omega
  have hml : (mkG xs i).length = xs.length * 9 := mkR_len Gd.ds_len rfl xs i q1
  have hsp : ∀ h : i < xs.length, spl (i * 9) (xs[i].ds.map dv) (mkG xs i) = mkG xs (i + 1) := fun h => mkR_spl Gd.ds_len rfl xs i h
  refine Wp.seq ?_
  refine Wp.seq ?_
  refine Wp.regionE [0, 2, 3, 4] (by simp [trim]; exact .mk _) ?_
  refine ExL.st Hz hP hnt rfl rfl (by decide) (by simp [go_sem]; exact .mk _ _) (by first | exact True.intro | exact und9 | exact und4 | (unfold r64; omega) | omega | (simp; omega)) ?_
  refine ExL.st Hz hP hnt rfl rfl (by decide) (by simp [go_sem]; exact .mk _ _) (by first | exact True.intro | exact und9 | exact und4 | (unfold r64; omega) | omega | (simp; omega)) ?_
  refine ExL.st Hz hP hnt rfl rfl (by decide) (by simp [go_sem]; exact .mk _ _) (by first | exact True.intro | exact und9 | exact und4 | (unfold r64; omega) | omega | (simp; omega)) ?_
  refine ExL.st Hz hP hnt rfl rfl (by decide) (by simp [go_sem]; exact .mk _ _) (by first | exact True.intro | exact und9 | exact und4 | (unfold r64; omega) | omega | (simp; omega)) ?_
  refine ExL.nil ?_
  refine Wp.condE (by simp [go_sem]; exact .mk _ _ _) ?_ ?_
  · intro hc1
    try simp at hc1
    refine Wp.skip ?_
    refine Wp.seq ?_
    refine Wp.block ?_
    refine Wp.regionE [0, 2, 3, 4] (by simp [trim]; exact .mk _) ?_
    refine ExL.st Hz hP hnt rfl rfl (by decide) (by simp [go_sem]; exact .mk _ _) (by first | exact True.intro | exact und9 | exact und4 | (unfold r64; omega) | omega | (simp; omega)) ?_
    refine ExL.st Hz hP hnt rfl rfl (by decide) (by simp [go_sem]; exact .mk _ _) (by first | exact True.intro | exact und9 | exact und4 | (unfold r64; omega) | omega | (simp; omega)) ?_
    refine ExL.st Hz hP hnt rfl rfl (by decide) (by simp [go_sem]; exact .mk _ _) (by first | exact True.intro | exact und9 | exact und4 | (unfold r64; omega) | omega | (simp; omega)) ?_
    refine ExL.st Hz hP hnt rfl rfl (by decide) (by simp [go_sem]; exact .mk _ _) (by first | exact True.intro | exact und9 | exact und4 | (unfold r64; omega) | omega | (simp; omega)) ?_
    refine ExL.st Hz hP hnt rfl rfl (by decide) (by simp [go_sem, hc1]; exact .mk _ _) (by first | exact True.intro | exact und9 | exact und4 | (unfold r64; omega) | omega | (simp; omega)) ?_
    refine ExL.st Hz hP hnt rfl rfl (by decide) (by simp [go_sem]; exact .mk _ _) (by first | exact True.intro | exact und9 | exact und4 | (unfold r64; omega) | omega | (simp; omega)) ?_
    refine ExL.call (h87 xs[i] (by simp)) Try.func87 hP hnt rfl rfl rfl (by decide) (by kernel_rfl) rfl (by simp [go_sem]; exact .mk _ _) (by simp [go_sem, Vsle, Vle, ACsle, ACle, ACsle.refl]) (by simp [go_sem]) ?_
    refine ExL.st Hz hP hnt rfl rfl (by decide) (by simp [go_sem]; exact .mk _ _) (by first | exact True.intro | exact und9 | exact und4 | (unfold r64; omega) | omega | (simp; omega)) ?_
    refine ExL.ef Hz hP hnt hnp rfl (by decide) (by simp [go_sem, hmk hc1, hml, hsp hc1]; exact .mk _ _) trivial ?_
    refine ExL.nil ?_
    refine Wp.regionE [0, 2, 3, 4] (by simp [trim]; exact .mk _) ?_
    refine ExL.st Hz hP hnt rfl rfl (by decide) (by simp [go_sem]; exact .mk _ _) (by first | exact True.intro | exact und9 | exact und4 | (unfold r64; omega) | omega | (simp; omega)) ?_
    refine ExL.st Hz hP hnt rfl rfl (by decide) (by simp [go_sem]; exact .mk _ _) (by first | exact True.intro | exact und9 | exact und4 | (unfold r64; omega) | omega | (simp; omega)) ?_
    refine ExL.st Hz hP hnt rfl rfl (by decide) (by simp [go_sem]; exact .mk _ _) (by first | exact True.intro | exact und9 | exact und4 | (unfold r64; omega) | omega | (simp; omega)) ?_
    refine ExL.nil ?_
    exact ⟨⟨i + 1, hc1⟩, LeL.le (by simp [go_sem, LeL, AVle, Vle, ACsle, ACle]), by show xs.length - (i + 1) < xs.length - i; omega⟩
  · intro hc1
    try simp at hc1
    refine Wp.exit ?_
    obtain rfl : i = xs.length := by omega
    refine Wp.freeze 3 7 xs.length 9 hnp (by decide) (by simp [look]) (by simp [look]) (dsOf_mkG xs) (mkG_len xs _ (Nat.le_refl _)) (by unfold maxLen; omega) (by simp only [chunk_R Gd.ds_len]; simp [go_sem]; exact .mk _) ?_
    refine Wp.seq ?_
    refine Wp.regionE [0, 2, 3, 4] (by simp [trim]; exact .mk _) ?_
    refine ExL.st Hz hP hnt rfl rfl (by decide) (by simp [go_sem]; exact .mk _ _) (by first | exact True.intro | exact und9 | exact und4 | (unfold r64; omega) | omega | (simp; omega)) ?_
    refine ExL.st Hz hP hnt rfl rfl (by decide) (by simp [go_sem]; exact .mk _ _) (by first | exact True.intro | exact und9 | exact und4 | (unfold r64; omega) | omega | (simp; omega)) ?_
    refine ExL.nil ?_
    refine Wp.ret ?_
    refine retQ.mk (by simp [go_sem]; exact .mk _ _) ?_
    simp [go_sem, Vsle, Vle, ACle]
theorem w59 (xs ys : List Gd) (hx : xs.length ≤ 281474976710656)
    (h : ∀ x ∈ xs, ∀ y ∈ ys, PC Try.prog 89 ([vG x, vG y].map .val) [vB (eqGd x y)] []) :
    PC Try.prog 59 ([vGs xs, vGs ys].map .val) [vB (eqR eqGd xs ys)] [] := by
  refine PC_of Try.func59 rfl rfl Try.ntmps59 (by simp) fun E hP hnt hnp => ?_
  simp only [vGs, vI, List.map_cons, List.map_nil, dv_raw, dv_sl, dv_ptr, dv_fn, inMap, Nat.reduceAdd]
  refine Wp.seq ?_
  refine Wp.regionE [0, 1, 4, 5] (by simp [trim]; exact .mk _) ?_
  refine ExL.st Hz hP hnt rfl rfl (by decide) (by simp [go_sem]; exact .mk _ _) (by first | exact True.intro | exact und9 | exact und4 | (unfold r64; omega) | omega | (simp; omega)) ?_
  refine ExL.nil ?_
  refine Wp.seq ?_
  refine Wp.seq ?_
  refine Wp.regionE [0, 1, 4, 5] (by simp [trim]; exact .mk _) ?_
  refine ExL.st Hz hP hnt rfl rfl (by decide) (by simp [go_sem]; exact .mk _ _) (by first | exact True.intro | exact und9 | exact und4 | (unfold r64; omega) | omega | (simp; omega)) ?_
  refine ExL.st Hz hP hnt rfl rfl (by decide) (by simp [go_sem]; exact .mk _ _) (by first | exact True.intro | exact und9 | exact und4 | (unfold r64; omega) | omega | (simp; omega)) ?_
  refine ExL.st Hz hP hnt rfl rfl (by decide) (by simp [go_sem]; exact .mk _ _) (by first | exact True.intro | exact und9 | exact und4 | (unfold r64; omega) | omega | (simp; omega)) ?_
  refine ExL.st Hz hP hnt rfl rfl (by decide) (by simp [go_sem]; exact .mk _ _) (by first | exact True.intro | exact und9 | exact und4 | (unfold r64; omega) | omega | (simp; omega)) ?_
  refine ExL.st Hz hP hnt rfl rfl (by decide) (by simp [go_sem]; exact .mk _ _) (by first | exact True.intro | exact und9 | exact und4 | (unfold r64; omega) | omega | (simp; omega)) ?_
  refine ExL.nil ?_
  refine Wp.condE (by simp [go_sem]; exact .mk _ _ _) ?_ ?_
  · intro hc1
    try simp at hc1
    refine Wp.seq ?_
    refine Wp.regionE [0, 1, 4, 5] (by simp [trim]; exact .mk _) ?_
    refine ExL.st Hz hP hnt rfl rfl (by decide) (by simp [go_sem]; exact .mk _ _) (by first | exact True.intro | exact und9 | exact und4 | (unfold r64; omega) | omega | (simp; omega)) ?_
    refine ExL.nil ?_
    refine Wp.ret ?_
    refine retQ.mk (by simp [go_sem]; exact .mk _ _) ?_
    first | (have hne : ¬ xs.length = ys.length := (by omega); simp [go_sem, Vsle, Vle, ACle, eqR, hne]; done) | (simp [go_sem, Vsle, Vle, ACle, eqR, q2, eqF_drop eqGd xs ys i hc2 (by omega), hlen, hc3]; done) | (simp [go_sem, Vsle, Vle, ACle, eqR, q2, hlen]; rw [List.drop_eq_nil_of_le (by omega)]; simp [eqF])
  · intro hc1
    try simp at hc1
    refine Wp.skip ?_
    refine Wp.seq ?_
    refine Wp.seq ?_
    refine Wp.regionE [0, 1, 4, 5] (by simp [trim]; exact .mk _) ?_
    refine ExL.st Hz hP hnt rfl rfl (by decide) (by simp [go_sem]; exact .mk _ _) (by first | exact True.intro | exact und9 | exact und4 | (unfold r64; omega) | omega | (simp; omega)) ?_
    refine ExL.nil ?_
    refine Wp.block ?_
    refine Wp.loop (ι := { p : Nat // p ≤ xs.length ∧ eqF eqGd xs ys = eqF eqGd (xs.drop p) (ys.drop p) }) (fun p => [(0, .val (vGs xs)), (3, .val (vGs ys)), (15, .val (vI p.1))]) (fun p => xs.length - p.1) ⟨0, by simp, by simp⟩ (LeL.le (by simp [go_sem, LeL, AVle, Vle, ACsle, ACle])) ?_
    intro p
    obtain ⟨i, q1, q2⟩ := p
    show Wp _ _ _ [(0, .val (vGs xs)), (3, .val (vGs ys)), (15, .val (vI i))]
    have hlen : xs.length = ys.length := by omega
    have hlt : i < xs.length → i < ys.length := fun h => by omega
    refine Wp.seq ?_
    refine Wp.seq ?_
    refine Wp.regionE [0, 1, 4, 5] (by simp [trim]; exact .mk _) ?_
    refine ExL.st Hz hP hnt rfl rfl (by decide) (by simp [go_sem]; exact .mk _ _) (by first | exact True.intro | exact und9 | exact und4 | (unfold r64; omega) | omega | (simp; omega)) ?_
    refine ExL.st Hz hP hnt rfl rfl (by decide) (by simp [go_sem]; exact .mk _ _) (by first | exact True.intro | exact und9 | exact und4 | (unfold r64; omega) | omega | (simp; omega)) ?_
    refine ExL.st Hz hP hnt rfl rfl (by decide) (by simp [go_sem]; exact .mk _ _) (by first | exact True.intro | exact und9 | exact und4 | (unfold r64; omega) | omega | (simp; omega)) ?_
    refine ExL.st Hz hP hnt rfl rfl (by decide) (by simp [go_sem]; exact .mk _ _) (by first | exact True.intro | exact und9 | exact und4 | (unfold r64; omega) | omega | (simp; omega)) ?_
    refine ExL.nil ?_
    refine Wp.condE (by simp [go_sem]; exact .mk _ _ _) ?_ ?_
    · intro hc2
      try simp at hc2
      refine Wp.skip ?_
      refine Wp.seq ?_
      refine Wp.block ?_
      refine Wp.seq ?_
      refine Wp.drawE [0, 1, 4, 5] 8 (by rw [hP]; exact mixed) (by kernel_rfl) (by simp [trim]; exact .mk _) ?_
      refine ExS.st Hz hP hnt rfl rfl (by decide) (by simp [go_sem]; exact .mk _ _) (by first | exact True.intro | exact und9 | exact und4 | (unfold r64; omega) | omega | (simp; omega)) ?_
      refine ExS.st Hz hP hnt rfl rfl (by decide) (by simp [go_sem]; exact .mk _ _) (by first | exact True.intro | exact und9 | exact und4 | (unfold r64; omega) | omega | (simp; omega)) ?_
      refine ExS.st Hz hP hnt rfl rfl (by decide) (by simp [go_sem, hc2]; exact .mk _ _) (by first | exact True.intro | exact und9 | exact und4 | (unfold r64; omega) | omega | (simp; omega)) ?_
      refine ExS.st Hz hP hnt rfl rfl (by decide) (by simp [go_sem]; exact .mk _ _) (by first | exact True.intro | exact und9 | exact und4 | (unfold r64; omega) | omega | (simp; omega)) ?_
      refine ExS.st Hz hP hnt rfl rfl (by decide) (by simp [go_sem]; exact .mk _ _) (by first | exact True.intro | exact und9 | exact und4 | (unfold r64; omega) | omega | (simp; omega)) ?_
      refine ExS.st Hz hP hnt rfl rfl (by decide) (by simp [go_sem]; exact .mk _ _) (by first | exact True.intro | exact und9 | exact und4 | (unfold r64; omega) | omega | (simp; omega)) ?_
      refine ExS.st Hz hP hnt rfl rfl (by decide) (by simp [go_sem, hc2, hlt]; exact .mk _ _) (by first | exact True.intro | exact und9 | exact und4 | (unfold r64; omega) | omega | (simp; omega)) ?_
      refine ExS.st Hz hP hnt rfl rfl (by decide) (by simp [go_sem]; exact .mk _ _) (by first | exact True.intro | exact und9 | exact und4 | (unfold r64; omega) | omega | (simp; omega)) ?_
      refine ExS.nil ?_
      refine ExL.call (h xs[i] (by simp) (ys[i]'(by omega)) (by simp)) Try.func89 hP hnt rfl rfl rfl (by decide) (by kernel_rfl) rfl (by simp [go_sem]; exact .mk _ _) (by simp [go_sem, Vsle, Vle, ACsle, ACle, ACsle.refl]) (by simp [go_sem]) ?_
      refine ExL.st Hz hP hnt rfl rfl (by decide) (by simp [go_sem]; exact .mk _ _) (by first | exact True.intro | exact und9 | exact und4 | (unfold r64; omega) | omega | (simp; omega)) ?_
      refine ExL.nil ?_
      refine Wp.condE (by simp [go_sem]; exact .mk _ _ _) ?_ ?_
      · intro hc3
        try simp at hc3
        refine Wp.seq ?_
        refine Wp.regionE [0, 1, 4, 5] (by simp [trim]; exact .mk _) ?_
        refine ExL.st Hz hP hnt rfl rfl (by decide) (by simp [go_sem]; exact .mk _ _) (by first | exact True.intro | exact und9 | exact und4 | (unfold r64; omega) | omega | (simp; omega)) ?_
        refine ExL.nil ?_
        refine Wp.ret ?_
        refine retQ.mk (by simp [go_sem]; exact .mk _ _) ?_
        first | (have hne : ¬ xs.length = ys.length := (by omega); simp [go_sem, Vsle, Vle, ACle, eqR, hne]; done) | (simp [go_sem, Vsle, Vle, ACle, eqR, q2, eqF_drop eqGd xs ys i hc2 (by omega), hlen, hc3]; done) | (simp [go_sem, Vsle, Vle, ACle, eqR, q2, hlen]; rw [List.drop_eq_nil_of_le (by omega)]; simp [eqF])
      · intro hc3
        try simp at hc3
        refine Wp.skip ?_
        refine Wp.regionE [0, 1, 4, 5] (by simp [trim]; exact .mk _) ?_
        refine ExL.st Hz hP hnt rfl rfl (by decide) (by simp [go_sem]; exact .mk _ _) (by first | exact True.intro | exact und9 | exact und4 | (unfold r64; omega) | omega | (simp; omega)) ?_
        refine ExL.st Hz hP hnt rfl rfl (by decide) (by simp [go_sem]; exact .mk _ _) (by first | exact True.intro | exact und9 | exact und4 | (unfold r64; omega) | omega | (simp; omega)) ?_
        refine ExL.st Hz hP hnt rfl rfl (by decide) (by simp [go_sem]; exact .mk _ _) (by first | exact True.intro | exact und9 | exact und4 | (unfold r64; omega) | omega | (simp; omega)) ?_
        refine ExL.nil ?_
        exact ⟨⟨i + 1, hc2, by rw [q2, eqF_drop eqGd xs ys i hc2 (by omega), hc3, Bool.true_and]⟩, LeL.le (by simp [go_sem, LeL, AVle, Vle, ACsle, ACle]), by show xs.length - (i + 1) < xs.length - i; omega⟩
    · intro hc2
      try simp at hc2
      refine Wp.exit ?_
      refine Wp.seq ?_
      refine Wp.regionE [0, 1, 4, 5] (by simp [trim]; exact .mk _) ?_
      refine ExL.st Hz hP hnt rfl rfl (by decide) (by simp [go_sem]; exact .mk _ _) (by first | exact True.intro | exact und9 | exact und4 | (unfold r64; omega) | omega | (simp; omega)) ?_
      refine ExL.nil ?_
      refine Wp.ret ?_
      refine retQ.mk (by simp [go_sem]; exact .mk _ _) ?_
      first | (have hne : ¬ xs.length = ys.length := (by omega); simp [go_sem, Vsle, Vle, ACle, eqR, hne]; done) | (simp [go_sem, Vsle, Vle, ACle, eqR, q2, eqF_drop eqGd xs ys i hc2 (by omega), hlen, hc3]; done) | (simp [go_sem, Vsle, Vle, ACle, eqR, q2, hlen]; rw [List.drop_eq_nil_of_le (by omega)]; simp [eqF])
theorem w53 (xs ys : List Gd) (hx : xs.length ≤ 281474976710656)
    (h : ∀ x ∈ xs, ∀ y ∈ ys, PC Try.prog 86 ([vG x, vG y].map .val) [vB (eqGd x y)] []) :
    PC Try.prog 53 ([vGs xs, vGs ys].map .val) [vB (eqR eqGd xs ys)] [] := by
  refine PC_of Try.func53 rfl rfl Try.ntmps53 (by simp) fun E hP hnt hnp => ?_
  simp only [vGs, vI, List.map_cons, List.map_nil, dv_raw, dv_sl, dv_ptr, dv_fn, inMap, Nat.reduceAdd]
  refine Wp.seq ?_
  refine Wp.regionE [0, 1, 4, 5] (by simp [trim]; exact .mk _) ?_
  refine ExL.st Hz hP hnt rfl rfl (by decide) (by simp [go_sem]; exact .mk _ _) (by first | exact True.intro | exact und9 | exact und4 | (unfold r64; omega) | omega | (simp; omega)) ?_
  refine ExL.nil ?_
  refine Wp.seq ?_
  refine Wp.seq ?_
  refine Wp.regionE [0, 1, 4, 5] (by simp [trim]; exact .mk _) ?_
  refine ExL.st Hz hP hnt rfl rfl (by decide) (by simp [go_sem]; exact .mk _ _) (by first | exact True.intro | exact und9 | exact und4 | (unfold r64; omega) | omega | (simp; omega)) ?_
  refine ExL.st Hz hP hnt rfl rfl (by decide) (by simp [go_sem]; exact .mk _ _) (by first | exact True.intro | exact und9 | exact und4 | (unfold r64; omega) | omega | (simp; omega)) ?_
  refine ExL.st Hz hP hnt rfl rfl (by decide) (by simp [go_sem]; exact .mk _ _) (by first | exact True.intro | exact und9 | exact und4 | (unfold r64; omega) | omega | (simp; omega)) ?_
  refine ExL.st Hz hP hnt rfl rfl (by decide) (by simp [go_sem]; exact .mk _ _) (by first | exact True.intro | exact und9 | exact und4 | (unfold r64; omega) | omega | (simp; omega)) ?_
  refine ExL.st Hz hP hnt rfl rfl (by decide) (by simp [go_sem]; exact .mk _ _) (by first | exact True.intro | exact und9 | exact und4 | (unfold r64; omega) | omega | (simp; omega)) ?_
  refine ExL.nil ?_
  refine Wp.condE (by simp [go_sem]; exact .mk _ _ _) ?_ ?_
  · intro hc1
    try simp at hc1
    refine Wp.seq ?_
    refine Wp.regionE [0, 1, 4, 5] (by simp [trim]; exact .mk _) ?_
    refine ExL.st Hz hP hnt rfl rfl (by decide) (by simp [go_sem]; exact .mk _ _) (by first | exact True.intro | exact und9 | exact und4 | (unfold r64; omega) | omega | (simp; omega)) ?_
    refine ExL.nil ?_
    refine Wp.ret ?_
    refine retQ.mk (by simp [go_sem]; exact .mk _ _) ?_
    first | (have hne : ¬ xs.length = ys.length := (by omega); simp [go_sem, Vsle, Vle, ACle, eqR, hne]; done) | (simp [go_sem, Vsle, Vle, ACle, eqR, q2, eqF_drop eqGd xs ys i hc2 (by omega), hlen, hc3]; done) | (simp [go_sem, Vsle, Vle, ACle, eqR, q2, hlen]; rw [List.drop_eq_nil_of_le (by omega)]; simp [eqF])
  · intro hc1
    try simp at hc1
    refine Wp.skip ?_
    refine Wp.seq ?_
    refine Wp.seq ?_
    refine Wp.regionE [0, 1, 4, 5] (by simp [trim]; exact .mk _) ?_
    refine ExL.st Hz hP hnt rfl rfl (by decide) (by simp [go_sem]; exact .mk _ _) (by first | exact True.intro | exact und9 | exact und4 | (unfold r64; omega) | omega | (simp; omega)) ?_
    refine ExL.nil ?_
    refine Wp.block ?_
    refine Wp.loop (ι := { p : Nat // p ≤ xs.length ∧ eqF eqGd xs ys = eqF eqGd (xs.drop p) (ys.drop p) }) (fun p => [(0, .val (vGs xs)), (3, .val (vGs ys)), (15, .val (vI p.1))]) (fun p => xs.length - p.1) ⟨0, by simp, by simp⟩ (LeL.le (by simp [go_sem, LeL, AVle, Vle, ACsle, ACle])) ?_
    intro p
    obtain ⟨i, q1, q2⟩ := p
    show Wp _ _ _ [(0, .val (vGs xs)), (3, .val (vGs ys)), (15, .val (vI i))]
    have hlen : xs.length = ys.length := by omega
    have hlt : i < xs.length → i < ys.length := fun h => by omega
    refine Wp.seq ?_
    refine Wp.seq ?_
    refine Wp.regionE [0, 1, 4, 5] (by simp [trim]; exact .mk _) ?_
    refine ExL.st Hz hP hnt rfl rfl (by decide) (by simp [go_sem]; exact .mk _ _) (by first | exact True.intro | exact und9 | exact und4 | (unfold r64; omega) | omega | (simp; omega)) ?_
    refine ExL.st Hz hP hnt rfl rfl (by decide) (by simp [go_sem]; exact .mk _ _) (by first | exact True.intro | exact und9 | exact und4 | (unfold r64; omega) | omega | (simp; omega)) ?_
    refine ExL.st Hz hP hnt rfl rfl (by decide) (by simp [go_sem]; exact .mk _ _) (by first | exact True.intro | exact und9 | exact und4 | (unfold r64; omega) | omega | (simp; omega)) ?_
    refine ExL.st Hz hP hnt rfl rfl (by decide) (by simp [go_sem]; exact .mk _ _) (by first | exact True.intro | exact und9 | exact und4 | (unfold r64; omega) | omega | (simp; omega)) ?_
    refine ExL.nil ?_
    refine Wp.condE (by simp [go_sem]; exact .mk _ _ _) ?_ ?_
    · intro hc2
      try simp at hc2
      refine Wp.skip ?_
      refine Wp.seq ?_
      refine Wp.block ?_
      refine Wp.seq ?_
      refine Wp.drawE [0, 1, 4, 5] 8 (by rw [hP]; exact mixed) (by kernel_rfl) (by simp [trim]; exact .mk _) ?_
      refine ExS.st Hz hP hnt rfl rfl (by decide) (by simp [go_sem]; exact .mk _ _) (by first | exact True.intro | exact und9 | exact und4 | (unfold r64; omega) | omega | (simp; omega)) ?_
      refine ExS.st Hz hP hnt rfl rfl (by decide) (by simp [go_sem]; exact .mk _ _) (by first | exact True.intro | exact und9 | exact und4 | (unfold r64; omega) | omega | (simp; omega)) ?_
      refine ExS.st Hz hP hnt rfl rfl (by decide) (by simp [go_sem, hc2]; exact .mk _ _) (by first | exact True.intro | exact und9 | exact und4 | (unfold r64; omega) | omega | (simp; omega)) ?_
      refine ExS.st Hz hP hnt rfl rfl (by decide) (by simp [go_sem]; exact .mk _ _) (by first | exact True.intro | exact und9 | exact und4 | (unfold r64; omega) | omega | (simp; omega)) ?_
      refine ExS.st Hz hP hnt rfl rfl (by decide) (by simp [go_sem]; exact .mk _ _) (by first | exact True.intro | exact und9 | exact und4 | (unfold r64; omega) | omega | (simp; omega)) ?_
      refine ExS.st Hz hP hnt rfl rfl (by decide) (by simp [go_sem]; exact .mk _ _) (by first | exact True.intro | exact und9 | exact und4 | (unfold r64; omega) | omega | (simp; omega)) ?_
      refine ExS.st Hz hP hnt rfl rfl (by decide) (by simp [go_sem, hc2, hlt]; exact .mk _ _) (by first | exact True.intro | exact und9 | exact und4 | (unfold r64; omega) | omega | (simp; omega)) ?_
      refine ExS.st Hz hP hnt rfl rfl (by decide) (by simp [go_sem]; exact .mk _ _) (by first | exact True.intro | exact und9 | exact und4 | (unfold r64; omega) | omega | (simp; omega)) ?_
      refine ExS.nil ?_
      refine ExL.call (h xs[i] (by simp) (ys[i]'(by omega)) (by simp)) Try.func86 hP hnt rfl rfl rfl (by decide) (by kernel_rfl) rfl (by simp [go_sem]; exact .mk _ _) (by simp [go_sem, Vsle, Vle, ACsle, ACle, ACsle.refl]) (by simp [go_sem]) ?_
      refine ExL.st Hz hP hnt rfl rfl (by decide) (by simp [go_sem]; exact .mk _ _) (by first | exact True.intro | exact und9 | exact und4 | (unfold r64; omega) | omega | (simp; omega)) ?_
      refine ExL.nil ?_
      refine Wp.condE (by simp [go_sem]; exact .mk _ _ _) ?_ ?_
      · intro hc3
        try simp at hc3
        refine Wp.seq ?_
        refine Wp.regionE [0, 1, 4, 5] (by simp [trim]; exact .mk _) ?_
        refine ExL.st Hz hP hnt rfl rfl (by decide) (by simp [go_sem]; exact .mk _ _) (by first | exact True.intro | exact und9 | exact und4 | (unfold r64; omega) | omega | (simp; omega)) ?_
        refine ExL.nil ?_
        refine Wp.ret ?_
        refine retQ.mk (by simp [go_sem]; exact .mk _ _) ?_
        first | (have hne : ¬ xs.length = ys.length := (by omega); simp [go_sem, Vsle, Vle, ACle, eqR, hne]; done) | (simp [go_sem, Vsle, Vle, ACle, eqR, q2, eqF_drop eqGd xs ys i hc2 (by omega), hlen, hc3]; done) | (simp [go_sem, Vsle, Vle, ACle, eqR, q2, hlen]; rw [List.drop_eq_nil_of_le (by omega)]; simp [eqF])
      · intro hc3
        try simp at hc3
        refine Wp.skip ?_
        refine Wp.regionE [0, 1, 4, 5] (by simp [trim]; exact .mk _) ?_
        refine ExL.st Hz hP hnt rfl rfl (by decide) (by simp [go_sem]; exact .mk _ _) (by first | exact True.intro | exact und9 | exact und4 | (unfold r64; omega) | omega | (simp; omega)) ?_
        refine ExL.st Hz hP hnt rfl rfl (by decide) (by simp [go_sem]; exact .mk _ _) (by first | exact True.intro | exact und9 | exact und4 | (unfold r64; omega) | omega | (simp; omega)) ?_
        refine ExL.st Hz hP hnt rfl rfl (by decide) (by simp [go_sem]; exact .mk _ _) (by first | exact True.intro | exact und9 | exact und4 | (unfold r64; omega) | omega | (simp; omega)) ?_
        refine ExL.nil ?_
        exact ⟨⟨i + 1, hc2, by rw [q2, eqF_drop eqGd xs ys i hc2 (by omega), hc3, Bool.true_and]⟩, LeL.le (by simp [go_sem, LeL, AVle, Vle, ACsle, ACle]), by show xs.length - (i + 1) < xs.length - i; omega⟩
    · intro hc2
      try simp at hc2
      refine Wp.exit ?_
      refine Wp.seq ?_
      refine Wp.regionE [0, 1, 4, 5] (by simp [trim]; exact .mk _) ?_
      refine ExL.st Hz hP hnt rfl rfl (by decide) (by simp [go_sem]; exact .mk _ _) (by first | exact True.intro | exact und9 | exact und4 | (unfold r64; omega) | omega | (simp; omega)) ?_
      refine ExL.nil ?_
      refine Wp.ret ?_
      refine retQ.mk (by simp [go_sem]; exact .mk _ _) ?_
      first | (have hne : ¬ xs.length = ys.length := (by omega); simp [go_sem, Vsle, Vle, ACle, eqR, hne]; done) | (simp [go_sem, Vsle, Vle, ACle, eqR, q2, eqF_drop eqGd xs ys i hc2 (by omega), hlen, hc3]; done) | (simp [go_sem, Vsle, Vle, ACle, eqR, q2, hlen]; rw [List.drop_eq_nil_of_le (by omega)]; simp [eqF])
theorem w86 (k lk ln rk rn : Int) (ls rs : ByteArray) (lx rx : List Tm) (k' lk' ln' rk' rn' : Int) (ls' rs' : ByteArray) (lx' rx' : List Tm)
    (h : ∀ x y, x = Tm.mk lk ln ls lx ∨ x = Tm.mk rk rn rs rx → PC Try.prog 52 ([vT x, vT y].map .val) [vB (eqT x y)] []) :
    PC Try.prog 86 ([vG ⟨k, .mk lk ln ls lx, .mk rk rn rs rx⟩, vG ⟨k', .mk lk' ln' ls' lx', .mk rk' rn' rs' rx'⟩].map .val) [vB (eqGd ⟨k, .mk lk ln ls lx, .mk rk rn rs rx⟩ ⟨k', .mk lk' ln' ls' lx', .mk rk' rn' rs' rx'⟩)] [] := by
  refine PC_of Try.func86 rfl rfl Try.ntmps86 (by simp) fun E hP hnt hnp => ?_
  simp only [vG, Gd.ds_mk, Tm.ds_mk, List.cons_append, List.nil_append, List.map_cons, List.map_nil, dv_raw, dv_sl, dv_ptr, dv_fn, inMap, Nat.reduceAdd]
  refine Wp.seq ?_
  refine Wp.regionE [0, 1, 2, 3, 4] (by simp [trim]; exact .mk _) ?_
  refine ExL.ef Hz hP hnt hnp rfl (by decide) (by simp [go_sem]; exact .mk _ _) trivial ?_
  refine ExL.ef Hz hP hnt hnp rfl (by decide) (by simp [go_sem]; exact .mk _ _) trivial ?_
  refine ExL.st Hz hP hnt rfl rfl (by decide) (by simp [go_sem]; exact .mk _ _) (by first | exact True.intro | exact und9 | exact und4 | (unfold r64; omega) | omega | (simp; omega)) ?_
  refine ExL.nil ?_
  refine Wp.seq ?_
  refine Wp.regionE [0, 1, 2, 3, 4] (by simp [trim]; exact .mk _) ?_
  refine ExL.st Hz hP hnt rfl rfl (by decide) (by simp [go_sem]; exact .mk _ _) (by first | exact True.intro | exact und9 | exact und4 | (unfold r64; omega) | omega | (simp; omega)) ?_
  refine ExL.st Hz hP hnt rfl rfl (by decide) (by simp [go_sem]; exact .mk _ _) (by first | exact True.intro | exact und9 | exact und4 | (unfold r64; omega) | omega | (simp; omega)) ?_
  refine ExL.st Hz hP hnt rfl rfl (by decide) (by simp [go_sem]; exact .mk _ _) (by first | exact True.intro | exact und9 | exact und4 | (unfold r64; omega) | omega | (simp; omega)) ?_
  refine ExL.st Hz hP hnt rfl rfl (by decide) (by simp [go_sem]; exact .mk _ _) (by first | exact True.intro | exact und9 | exact und4 | (unfold r64; omega) | omega | (simp; omega)) ?_
  refine ExL.st Hz hP hnt rfl rfl (by decide) (by simp [go_sem]; exact .mk _ _) (by first | exact True.intro | exact und9 | exact und4 | (unfold r64; omega) | omega | (simp; omega)) ?_
  refine ExL.st Hz hP hnt rfl rfl (by decide) (by simp [go_sem]; exact .mk _ _) (by first | exact True.intro | exact und9 | exact und4 | (unfold r64; omega) | omega | (simp; omega)) ?_
  refine ExL.splitE 10 (by simp [look]; exact .mk _ _ _) (by simp [put]; exact .mk _) (by simp [put]; exact .mk _) ?_ ?_
  · intro hg1
    try simp at hg1
    refine ExL.stOnE Hz hP hnt rfl rfl (by decide) rfl (by decide) (by simp [look]; exact .mk _ _ _) rfl (by simp [go_sem]; exact .mk _ _) (by first | exact True.intro | exact und9 | exact und4 | (unfold r64; omega) | omega | (simp; omega)) ?_
    refine ExL.stOnE Hz hP hnt rfl rfl (by decide) rfl (by decide) (by simp [look]; exact .mk _ _ _) rfl (by simp [go_sem]; exact .mk _ _) (by first | exact True.intro | exact und9 | exact und4 | (unfold r64; omega) | omega | (simp; omega)) ?_
    refine ExL.stOnE Hz hP hnt rfl rfl (by decide) rfl (by decide) (by simp [look]; exact .mk _ _ _) rfl (by simp [go_sem]; exact .mk _ _) (by first | exact True.intro | exact und9 | exact und4 | (unfold r64; omega) | omega | (simp; omega)) ?_
    refine ExL.stOnE Hz hP hnt rfl rfl (by decide) rfl (by decide) (by simp [look]; exact .mk _ _ _) rfl (by simp [go_sem]; exact .mk _ _) (by first | exact True.intro | exact und9 | exact und4 | (unfold r64; omega) | omega | (simp; omega)) ?_
    refine ExL.onK hnt rfl rfl (by decide) (by simp [look]; exact .mk _ _ _) rfl (OpK.call (h (.mk lk ln ls lx) (.mk lk' ln' ls' lx') (.inl rfl)) Try.func52 hP hnt rfl rfl (by decide) (by kernel_rfl) rfl (by simp [go_sem]; exact .mk _ _) (by simp [go_sem, Vsle, Vle, ACsle, ACle, ACsle.refl]) (by simp [go_sem]) (by simp [go_sem]; exact .mk _)) ?_
    refine ExL.st Hz hP hnt rfl rfl (by decide) (by simp [go_sem]; exact .mk _ _) (by first | exact True.intro | exact und9 | exact und4 | (unfold r64; omega) | omega | (simp; omega)) ?_
    refine ExL.st Hz hP hnt rfl rfl (by decide) (by simp [go_sem]; exact .mk _ _) (by first | exact True.intro | exact und9 | exact und4 | (unfold r64; omega) | omega | (simp; omega)) ?_
    refine ExL.splitE 17 (by simp [look]; exact .mk _ _ _) (by simp [put]; exact .mk _) (by simp [put]; exact .mk _) ?_ ?_
    · intro hg2
      try simp at hg2
      refine ExL.stOnE Hz hP hnt rfl rfl (by decide) rfl (by decide) (by simp [look]; exact .mk _ _ _) rfl (by simp [go_sem]; exact .mk _ _) (by first | exact True.intro | exact und9 | exact und4 | (unfold r64; omega) | omega | (simp; omega)) ?_
      refine ExL.stOnE Hz hP hnt rfl rfl (by decide) rfl (by decide) (by simp [look]; exact .mk _ _ _) rfl (by simp [go_sem]; exact .mk _ _) (by first | exact True.intro | exact und9 | exact und4 | (unfold r64; omega) | omega | (simp; omega)) ?_
      refine ExL.stOnE Hz hP hnt rfl rfl (by decide) rfl (by decide) (by simp [look]; exact .mk _ _ _) rfl (by simp [go_sem]; exact .mk _ _) (by first | exact True.intro | exact und9 | exact und4 | (unfold r64; omega) | omega | (simp; omega)) ?_
      refine ExL.stOnE Hz hP hnt rfl rfl (by decide) rfl (by decide) (by simp [look]; exact .mk _ _ _) rfl (by simp [go_sem]; exact .mk _ _) (by first | exact True.intro | exact und9 | exact und4 | (unfold r64; omega) | omega | (simp; omega)) ?_
      refine ExL.onK hnt rfl rfl (by decide) (by simp [look]; exact .mk _ _ _) rfl (OpK.call (h (.mk rk rn rs rx) (.mk rk' rn' rs' rx') (.inr rfl)) Try.func52 hP hnt rfl rfl (by decide) (by kernel_rfl) rfl (by simp [go_sem]; exact .mk _ _) (by simp [go_sem, Vsle, Vle, ACsle, ACle, ACsle.refl]) (by simp [go_sem]) (by simp [go_sem]; exact .mk _)) ?_
      refine ExL.st Hz hP hnt rfl rfl (by decide) (by simp [go_sem]; exact .mk _ _) (by first | exact True.intro | exact und9 | exact und4 | (unfold r64; omega) | omega | (simp; omega)) ?_
      refine ExL.st Hz hP hnt rfl rfl (by decide) (by simp [go_sem]; exact .mk _ _) (by first | exact True.intro | exact und9 | exact und4 | (unfold r64; omega) | omega | (simp; omega)) ?_
      refine ExL.nil ?_
      refine Wp.ret ?_
      refine retQ.mk (by simp [go_sem]; exact .mk _ _) ?_
      simp [go_sem, Vsle, Vle, ACle, ACsle, eqGd, *]
    · intro hg2
      try simp at hg2
      refine ExL.offE hnt rfl rfl (by decide) (by simp [look]; exact .mk _ _ _) rfl rfl (by decide) (by simp [put]; exact .mk _) ?_
      refine ExL.offE hnt rfl rfl (by decide) (by simp [look]; exact .mk _ _ _) rfl rfl (by decide) (by simp [put]; exact .mk _) ?_
      refine ExL.offE hnt rfl rfl (by decide) (by simp [look]; exact .mk _ _ _) rfl rfl (by decide) (by simp [put]; exact .mk _) ?_
      refine ExL.offE hnt rfl rfl (by decide) (by simp [look]; exact .mk _ _ _) rfl rfl (by decide) (by simp [put]; exact .mk _) ?_
      refine ExL.offE hnt rfl rfl (by decide) (by simp [look]; exact .mk _ _ _) rfl rfl (by decide) (by simp [put]; exact .mk _) ?_
      refine ExL.st Hz hP hnt rfl rfl (by decide) (by simp [go_sem]; exact .mk _ _) (by first | exact True.intro | exact und9 | exact und4 | (unfold r64; omega) | omega | (simp; omega)) ?_
      refine ExL.st Hz hP hnt rfl rfl (by decide) (by simp [go_sem]; exact .mk _ _) (by first | exact True.intro | exact und9 | exact und4 | (unfold r64; omega) | omega | (simp; omega)) ?_
      refine ExL.nil ?_
      refine Wp.ret ?_
      refine retQ.mk (by simp [go_sem]; exact .mk _ _) ?_
      simp [go_sem, Vsle, Vle, ACle, ACsle, eqGd, *]
  · intro hg1
    try simp at hg1
    refine ExL.offE hnt rfl rfl (by decide) (by simp [look]; exact .mk _ _ _) rfl rfl (by decide) (by simp [put]; exact .mk _) ?_
    refine ExL.offE hnt rfl rfl (by decide) (by simp [look]; exact .mk _ _ _) rfl rfl (by decide) (by simp [put]; exact .mk _) ?_
    refine ExL.offE hnt rfl rfl (by decide) (by simp [look]; exact .mk _ _ _) rfl rfl (by decide) (by simp [put]; exact .mk _) ?_
    refine ExL.offE hnt rfl rfl (by decide) (by simp [look]; exact .mk _ _ _) rfl rfl (by decide) (by simp [put]; exact .mk _) ?_
    refine ExL.offE hnt rfl rfl (by decide) (by simp [look]; exact .mk _ _ _) rfl rfl (by decide) (by simp [put]; exact .mk _) ?_
    refine ExL.st Hz hP hnt rfl rfl (by decide) (by simp [go_sem]; exact .mk _ _) (by first | exact True.intro | exact und9 | exact und4 | (unfold r64; omega) | omega | (simp; omega)) ?_
    refine ExL.st Hz hP hnt rfl rfl (by decide) (by simp [go_sem]; exact .mk _ _) (by first | exact True.intro | exact und9 | exact und4 | (unfold r64; omega) | omega | (simp; omega)) ?_
    refine ExL.offE hnt rfl rfl (by decide) (by simp [look]; exact .mk _ _ _) rfl rfl (by decide) (by simp [put]; exact .mk _) ?_
    refine ExL.offE hnt rfl rfl (by decide) (by simp [look]; exact .mk _ _ _) rfl rfl (by decide) (by simp [put]; exact .mk _) ?_
    refine ExL.offE hnt rfl rfl (by decide) (by simp [look]; exact .mk _ _ _) rfl rfl (by decide) (by simp [put]; exact .mk _) ?_
    refine ExL.offE hnt rfl rfl (by decide) (by simp [look]; exact .mk _ _ _) rfl rfl (by decide) (by simp [put]; exact .mk _) ?_
    refine ExL.offE hnt rfl rfl (by decide) (by simp [look]; exact .mk _ _ _) rfl rfl (by decide) (by simp [put]; exact .mk _) ?_
    refine ExL.st Hz hP hnt rfl rfl (by decide) (by simp [go_sem]; exact .mk _ _) (by first | exact True.intro | exact und9 | exact und4 | (unfold r64; omega) | omega | (simp; omega)) ?_
    refine ExL.st Hz hP hnt rfl rfl (by decide) (by simp [go_sem]; exact .mk _ _) (by first | exact True.intro | exact und9 | exact und4 | (unfold r64; omega) | omega | (simp; omega)) ?_
    refine ExL.nil ?_
    refine Wp.ret ?_
    refine retQ.mk (by simp [go_sem]; exact .mk _ _) ?_
    simp [go_sem, Vsle, Vle, ACle, ACsle, eqGd, *]
theorem w58 (k lk ln rk rn : Int) (ls rs : ByteArray) (lx rx : List Tm) (k' lk' ln' rk' rn' : Int) (ls' rs' : ByteArray) (lx' rx' : List Tm)
    (h : ∀ x y, x = Tm.mk lk ln ls lx ∨ x = Tm.mk rk rn rs rx → PC Try.prog 56 ([vT x, vT y].map .val) [vB (eqT x y)] []) :
    PC Try.prog 58 ([vG ⟨k, .mk lk ln ls lx, .mk rk rn rs rx⟩, vG ⟨k', .mk lk' ln' ls' lx', .mk rk' rn' rs' rx'⟩].map .val) [vB (eqGd ⟨k, .mk lk ln ls lx, .mk rk rn rs rx⟩ ⟨k', .mk lk' ln' ls' lx', .mk rk' rn' rs' rx'⟩)] [] := by
  refine PC_of Try.func58 rfl rfl Try.ntmps58 (by simp) fun E hP hnt hnp => ?_
  simp only [vG, Gd.ds_mk, Tm.ds_mk, List.cons_append, List.nil_append, List.map_cons, List.map_nil, dv_raw, dv_sl, dv_ptr, dv_fn, inMap, Nat.reduceAdd]
  refine Wp.seq ?_
  refine Wp.regionE [0, 1, 2, 3, 4] (by simp [trim]; exact .mk _) ?_
  refine ExL.ef Hz hP hnt hnp rfl (by decide) (by simp [go_sem]; exact .mk _ _) trivial ?_
  refine ExL.ef Hz hP hnt hnp rfl (by decide) (by simp [go_sem]; exact .mk _ _) trivial ?_
  refine ExL.st Hz hP hnt rfl rfl (by decide) (by simp [go_sem]; exact .mk _ _) (by first | exact True.intro | exact und9 | exact und4 | (unfold r64; omega) | omega | (simp; omega)) ?_
  refine ExL.nil ?_
  refine Wp.seq ?_
  refine Wp.regionE [0, 1, 2, 3, 4] (by simp [trim]; exact .mk _) ?_
  refine ExL.st Hz hP hnt rfl rfl (by decide) (by simp [go_sem]; exact .mk _ _) (by first | exact True.intro | exact und9 | exact und4 | (unfold r64; omega) | omega | (simp; omega)) ?_
  refine ExL.st Hz hP hnt rfl rfl (by decide) (by simp [go_sem]; exact .mk _ _) (by first | exact True.intro | exact und9 | exact und4 | (unfold r64; omega) | omega | (simp; omega)) ?_
  refine ExL.st Hz hP hnt rfl rfl (by decide) (by simp [go_sem]; exact .mk _ _) (by first | exact True.intro | exact und9 | exact und4 | (unfold r64; omega) | omega | (simp; omega)) ?_
  refine ExL.st Hz hP hnt rfl rfl (by decide) (by simp [go_sem]; exact .mk _ _) (by first | exact True.intro | exact und9 | exact und4 | (unfold r64; omega) | omega | (simp; omega)) ?_
  refine ExL.st Hz hP hnt rfl rfl (by decide) (by simp [go_sem]; exact .mk _ _) (by first | exact True.intro | exact und9 | exact und4 | (unfold r64; omega) | omega | (simp; omega)) ?_
  refine ExL.st Hz hP hnt rfl rfl (by decide) (by simp [go_sem]; exact .mk _ _) (by first | exact True.intro | exact und9 | exact und4 | (unfold r64; omega) | omega | (simp; omega)) ?_
  refine ExL.splitE 10 (by simp [look]; exact .mk _ _ _) (by simp [put]; exact .mk _) (by simp [put]; exact .mk _) ?_ ?_
  · intro hg1
    try simp at hg1
    refine ExL.stOnE Hz hP hnt rfl rfl (by decide) rfl (by decide) (by simp [look]; exact .mk _ _ _) rfl (by simp [go_sem]; exact .mk _ _) (by first | exact True.intro | exact und9 | exact und4 | (unfold r64; omega) | omega | (simp; omega)) ?_
    refine ExL.stOnE Hz hP hnt rfl rfl (by decide) rfl (by decide) (by simp [look]; exact .mk _ _ _) rfl (by simp [go_sem]; exact .mk _ _) (by first | exact True.intro | exact und9 | exact und4 | (unfold r64; omega) | omega | (simp; omega)) ?_
    refine ExL.stOnE Hz hP hnt rfl rfl (by decide) rfl (by decide) (by simp [look]; exact .mk _ _ _) rfl (by simp [go_sem]; exact .mk _ _) (by first | exact True.intro | exact und9 | exact und4 | (unfold r64; omega) | omega | (simp; omega)) ?_
    refine ExL.stOnE Hz hP hnt rfl rfl (by decide) rfl (by decide) (by simp [look]; exact .mk _ _ _) rfl (by simp [go_sem]; exact .mk _ _) (by first | exact True.intro | exact und9 | exact und4 | (unfold r64; omega) | omega | (simp; omega)) ?_
    refine ExL.onK hnt rfl rfl (by decide) (by simp [look]; exact .mk _ _ _) rfl (OpK.call (h (.mk lk ln ls lx) (.mk lk' ln' ls' lx') (.inl rfl)) Try.func56 hP hnt rfl rfl (by decide) (by kernel_rfl) rfl (by simp [go_sem]; exact .mk _ _) (by simp [go_sem, Vsle, Vle, ACsle, ACle, ACsle.refl]) (by simp [go_sem]) (by simp [go_sem]; exact .mk _)) ?_
    refine ExL.st Hz hP hnt rfl rfl (by decide) (by simp [go_sem]; exact .mk _ _) (by first | exact True.intro | exact und9 | exact und4 | (unfold r64; omega) | omega | (simp; omega)) ?_
    refine ExL.st Hz hP hnt rfl rfl (by decide) (by simp [go_sem]; exact .mk _ _) (by first | exact True.intro | exact und9 | exact und4 | (unfold r64; omega) | omega | (simp; omega)) ?_
    refine ExL.splitE 17 (by simp [look]; exact .mk _ _ _) (by simp [put]; exact .mk _) (by simp [put]; exact .mk _) ?_ ?_
    · intro hg2
      try simp at hg2
      refine ExL.stOnE Hz hP hnt rfl rfl (by decide) rfl (by decide) (by simp [look]; exact .mk _ _ _) rfl (by simp [go_sem]; exact .mk _ _) (by first | exact True.intro | exact und9 | exact und4 | (unfold r64; omega) | omega | (simp; omega)) ?_
      refine ExL.stOnE Hz hP hnt rfl rfl (by decide) rfl (by decide) (by simp [look]; exact .mk _ _ _) rfl (by simp [go_sem]; exact .mk _ _) (by first | exact True.intro | exact und9 | exact und4 | (unfold r64; omega) | omega | (simp; omega)) ?_
      refine ExL.stOnE Hz hP hnt rfl rfl (by decide) rfl (by decide) (by simp [look]; exact .mk _ _ _) rfl (by simp [go_sem]; exact .mk _ _) (by first | exact True.intro | exact und9 | exact und4 | (unfold r64; omega) | omega | (simp; omega)) ?_
      refine ExL.stOnE Hz hP hnt rfl rfl (by decide) rfl (by decide) (by simp [look]; exact .mk _ _ _) rfl (by simp [go_sem]; exact .mk _ _) (by first | exact True.intro | exact und9 | exact und4 | (unfold r64; omega) | omega | (simp; omega)) ?_
      refine ExL.onK hnt rfl rfl (by decide) (by simp [look]; exact .mk _ _ _) rfl (OpK.call (h (.mk rk rn rs rx) (.mk rk' rn' rs' rx') (.inr rfl)) Try.func56 hP hnt rfl rfl (by decide) (by kernel_rfl) rfl (by simp [go_sem]; exact .mk _ _) (by simp [go_sem, Vsle, Vle, ACsle, ACle, ACsle.refl]) (by simp [go_sem]) (by simp [go_sem]; exact .mk _)) ?_
      refine ExL.st Hz hP hnt rfl rfl (by decide) (by simp [go_sem]; exact .mk _ _) (by first | exact True.intro | exact und9 | exact und4 | (unfold r64; omega) | omega | (simp; omega)) ?_
      refine ExL.st Hz hP hnt rfl rfl (by decide) (by simp [go_sem]; exact .mk _ _) (by first | exact True.intro | exact und9 | exact und4 | (unfold r64; omega) | omega | (simp; omega)) ?_
      refine ExL.nil ?_
      refine Wp.ret ?_
      refine retQ.mk (by simp [go_sem]; exact .mk _ _) ?_
      simp [go_sem, Vsle, Vle, ACle, ACsle, eqGd, *]
    · intro hg2
      try simp at hg2
      refine ExL.offE hnt rfl rfl (by decide) (by simp [look]; exact .mk _ _ _) rfl rfl (by decide) (by simp [put]; exact .mk _) ?_
      refine ExL.offE hnt rfl rfl (by decide) (by simp [look]; exact .mk _ _ _) rfl rfl (by decide) (by simp [put]; exact .mk _) ?_
      refine ExL.offE hnt rfl rfl (by decide) (by simp [look]; exact .mk _ _ _) rfl rfl (by decide) (by simp [put]; exact .mk _) ?_
      refine ExL.offE hnt rfl rfl (by decide) (by simp [look]; exact .mk _ _ _) rfl rfl (by decide) (by simp [put]; exact .mk _) ?_
      refine ExL.offE hnt rfl rfl (by decide) (by simp [look]; exact .mk _ _ _) rfl rfl (by decide) (by simp [put]; exact .mk _) ?_
      refine ExL.st Hz hP hnt rfl rfl (by decide) (by simp [go_sem]; exact .mk _ _) (by first | exact True.intro | exact und9 | exact und4 | (unfold r64; omega) | omega | (simp; omega)) ?_
      refine ExL.st Hz hP hnt rfl rfl (by decide) (by simp [go_sem]; exact .mk _ _) (by first | exact True.intro | exact und9 | exact und4 | (unfold r64; omega) | omega | (simp; omega)) ?_
      refine ExL.nil ?_
      refine Wp.ret ?_
      refine retQ.mk (by simp [go_sem]; exact .mk _ _) ?_
      simp [go_sem, Vsle, Vle, ACle, ACsle, eqGd, *]
  · intro hg1
    try simp at hg1
    refine ExL.offE hnt rfl rfl (by decide) (by simp [look]; exact .mk _ _ _) rfl rfl (by decide) (by simp [put]; exact .mk _) ?_
    refine ExL.offE hnt rfl rfl (by decide) (by simp [look]; exact .mk _ _ _) rfl rfl (by decide) (by simp [put]; exact .mk _) ?_
    refine ExL.offE hnt rfl rfl (by decide) (by simp [look]; exact .mk _ _ _) rfl rfl (by decide) (by simp [put]; exact .mk _) ?_
    refine ExL.offE hnt rfl rfl (by decide) (by simp [look]; exact .mk _ _ _) rfl rfl (by decide) (by simp [put]; exact .mk _) ?_
    refine ExL.offE hnt rfl rfl (by decide) (by simp [look]; exact .mk _ _ _) rfl rfl (by decide) (by simp [put]; exact .mk _) ?_
    refine ExL.st Hz hP hnt rfl rfl (by decide) (by simp [go_sem]; exact .mk _ _) (by first | exact True.intro | exact und9 | exact und4 | (unfold r64; omega) | omega | (simp; omega)) ?_
    refine ExL.st Hz hP hnt rfl rfl (by decide) (by simp [go_sem]; exact .mk _ _) (by first | exact True.intro | exact und9 | exact und4 | (unfold r64; omega) | omega | (simp; omega)) ?_
    refine ExL.offE hnt rfl rfl (by decide) (by simp [look]; exact .mk _ _ _) rfl rfl (by decide) (by simp [put]; exact .mk _) ?_
    refine ExL.offE hnt rfl rfl (by decide) (by simp [look]; exact .mk _ _ _) rfl rfl (by decide) (by simp [put]; exact .mk _) ?_
    refine ExL.offE hnt rfl rfl (by decide) (by simp [look]; exact .mk _ _ _) rfl rfl (by decide) (by simp [put]; exact .mk _) ?_
    refine ExL.offE hnt rfl rfl (by decide) (by simp [look]; exact .mk _ _ _) rfl rfl (by decide) (by simp [put]; exact .mk _) ?_
    refine ExL.offE hnt rfl rfl (by decide) (by simp [look]; exact .mk _ _ _) rfl rfl (by decide) (by simp [put]; exact .mk _) ?_
    refine ExL.st Hz hP hnt rfl rfl (by decide) (by simp [go_sem]; exact .mk _ _) (by first | exact True.intro | exact und9 | exact und4 | (unfold r64; omega) | omega | (simp; omega)) ?_
    refine ExL.st Hz hP hnt rfl rfl (by decide) (by simp [go_sem]; exact .mk _ _) (by first | exact True.intro | exact und9 | exact und4 | (unfold r64; omega) | omega | (simp; omega)) ?_
    refine ExL.nil ?_
    refine Wp.ret ?_
    refine retQ.mk (by simp [go_sem]; exact .mk _ _) ?_
    simp [go_sem, Vsle, Vle, ACle, ACsle, eqGd, *]
theorem w57 (xs ys : List Gd) (hx : xs.length ≤ 281474976710656) (f : FuncId) (fn : Func) (caps : List D) (hf : Try.prog.funcs[f]? = some fn) (hfb : (fn.body.isNone || fn.name == "runtime.NumGoroutine") = false)
    (hp : ∀ x ∈ xs, ∀ y ∈ ys, PC Try.prog f (([vG x, vG y] ++ caps.map fun d => V.one (dv d)).map .val) [vB (eqGd x y)] []) :
    PC Try.prog 57 ([vGs xs, vGs ys, vF f caps].map .val) [vB (eqR eqGd xs ys)] [] := by
  refine PC_of Try.func57 rfl rfl Try.ntmps57 (by simp) fun E hP hnt hnp => ?_
  simp only [vGs, vI, vF, List.map_cons, List.map_nil, dv_raw, dv_sl, dv_ptr, dv_fn, inMap, Nat.reduceAdd]
  refine Wp.seq ?_
  refine Wp.regionE [0, 1, 2, 6, 7, 8, 9, 15, 16, 17] (by simp [trim]; exact .mk _) ?_
  refine ExL.st Hz hP hnt rfl rfl (by decide) (by simp [go_sem]; exact .mk _ _) (by first | exact True.intro | exact und9 | exact und4 | (unfold r64; omega) | omega | (simp; omega)) ?_
  refine ExL.nil ?_
  refine Wp.seq ?_
  refine Wp.seq ?_
  refine Wp.regionE [0, 1, 2, 6, 7, 8, 9, 15, 16, 17] (by simp [trim]; exact .mk _) ?_
  refine ExL.st Hz hP hnt rfl rfl (by decide) (by simp [go_sem]; exact .mk _ _) (by first | exact True.intro | exact und9 | exact und4 | (unfold r64; omega) | omega | (simp; omega)) ?_
  refine ExL.st Hz hP hnt rfl rfl (by decide) (by simp [go_sem]; exact .mk _ _) (by first | exact True.intro | exact und9 | exact und4 | (unfold r64; omega) | omega | (simp; omega)) ?_
  refine ExL.st Hz hP hnt rfl rfl (by decide) (by simp [go_sem]; exact .mk _ _) (by first | exact True.intro | exact und9 | exact und4 | (unfold r64; omega) | omega | (simp; omega)) ?_
  refine ExL.st Hz hP hnt rfl rfl (by decide) (by simp [go_sem]; exact .mk _ _) (by first | exact True.intro | exact und9 | exact und4 | (unfold r64; omega) | omega | (simp; omega)) ?_
  refine ExL.st Hz hP hnt rfl rfl (by decide) (by simp [go_sem]; exact .mk _ _) (by first | exact True.intro | exact und9 | exact und4 | (unfold r64; omega) | omega | (simp; omega)) ?_
  refine ExL.nil ?_
  refine Wp.condE (by simp [go_sem]; exact .mk _ _ _) ?_ ?_
  · intro hc1
    try simp at hc1
    refine Wp.seq ?_
    refine Wp.regionE [0, 1, 2, 6, 7, 8, 9, 15, 16, 17] (by simp [trim]; exact .mk _) ?_
    refine ExL.st Hz hP hnt rfl rfl (by decide) (by simp [go_sem]; exact .mk _ _) (by first | exact True.intro | exact und9 | exact und4 | (unfold r64; omega) | omega | (simp; omega)) ?_
    refine ExL.nil ?_
    refine Wp.ret ?_
    refine retQ.mk (by simp [go_sem]; exact .mk _ _) ?_
    first | (have hne : ¬ xs.length = ys.length := (by omega); simp [go_sem, Vsle, Vle, ACle, eqR, hne]; done) | (simp [go_sem, Vsle, Vle, ACle, eqR, q2, eqF_drop eqGd xs ys i hc2 (by omega), hlen, hc3]; done) | (simp [go_sem, Vsle, Vle, ACle, eqR, q2, hlen]; rw [List.drop_eq_nil_of_le (by omega)]; simp [eqF])
  · intro hc1
    try simp at hc1
    refine Wp.skip ?_
    refine Wp.seq ?_
    refine Wp.seq ?_
    refine Wp.regionE [0, 1, 2, 6, 7, 8, 9, 15, 16, 17] (by simp [trim]; exact .mk _) ?_
    refine ExL.st Hz hP hnt rfl rfl (by decide) (by simp [go_sem]; exact .mk _ _) (by first | exact True.intro | exact und9 | exact und4 | (unfold r64; omega) | omega | (simp; omega)) ?_
    refine ExL.st Hz hP hnt rfl rfl (by decide) (by simp [go_sem]; exact .mk _ _) (by first | exact True.intro | exact und9 | exact und4 | (unfold r64; omega) | omega | (simp; omega)) ?_
    refine ExL.st Hz hP hnt rfl rfl (by decide) (by simp [go_sem]; exact .mk _ _) (by first | exact True.intro | exact und9 | exact und4 | (unfold r64; omega) | omega | (simp; omega)) ?_
    refine ExL.nil ?_
    refine Wp.block ?_
    refine Wp.loop (ι := { j : Nat // j ≤ xs.length ∧ eqF eqGd xs ys = eqF eqGd (xs.drop j) (ys.drop j) }) (fun j => [(0, .val (vGs xs)), (3, .val (vGs ys)), (6, .val (vF f caps)), (45, .val (vGs xs)), (48, .val (vI xs.length)), (51, .val (vI j.1))]) (fun j => xs.length - j.1) ⟨0, by simp, by simp⟩ (LeL.le (by simp [go_sem, LeL, AVle, Vle, ACsle, ACle])) ?_
    intro j
    obtain ⟨i, q1, q2⟩ := j
    show Wp _ _ _ [(0, .val (vGs xs)), (3, .val (vGs ys)), (6, .val (vF f caps)), (45, .val (vGs xs)), (48, .val (vI xs.length)), (51, .val (vI i))]
    have hlen : xs.length = ys.length := by omega
    have hlt : i < xs.length → i < ys.length := fun h => by omega
    refine Wp.seq ?_
    refine Wp.regionE [0, 1, 2, 6, 7, 8, 9, 15, 16, 17] (by simp [trim]; exact .mk _) ?_
    refine ExL.st Hz hP hnt rfl rfl (by decide) (by simp [go_sem]; exact .mk _ _) (by first | exact True.intro | exact und9 | exact und4 | (unfold r64; omega) | omega | (simp; omega)) ?_
    refine ExL.nil ?_
    refine Wp.seq ?_
    refine Wp.condE (by simp [go_sem]; exact .mk _ _ _) ?_ ?_
    · intro hc2
      try simp at hc2
      refine Wp.skip ?_
      refine Wp.seq ?_
      refine Wp.block ?_
      refine Wp.seq ?_
      refine Wp.regionE [0, 1, 2, 6, 7, 8, 9, 15, 16, 17] (by simp [trim]; exact .mk _) ?_
      refine ExL.st Hz hP hnt rfl rfl (by decide) (by simp [go_sem]; exact .mk _ _) (by first | exact True.intro | exact und9 | exact und4 | (unfold r64; omega) | omega | (simp; omega)) ?_
      refine ExL.st Hz hP hnt rfl rfl (by decide) (by simp [go_sem, hc2]; exact .mk _ _) (by first | exact True.intro | exact und9 | exact und4 | (unfold r64; omega) | omega | (simp; omega)) ?_
      refine ExL.st Hz hP hnt rfl rfl (by decide) (by simp [go_sem]; exact .mk _ _) (by first | exact True.intro | exact und9 | exact und4 | (unfold r64; omega) | omega | (simp; omega)) ?_
      refine ExL.ef Hz hP hnt hnp rfl (by decide) (by simp [go_sem]; exact .mk _ _) trivial ?_
      refine ExL.st Hz hP hnt rfl rfl (by decide) (by simp [go_sem]; exact .mk _ _) (by first | exact True.intro | exact und9 | exact und4 | (unfold r64; omega) | omega | (simp; omega)) ?_
      refine ExL.ef Hz hP hnt hnp rfl (by decide) (by simp [go_sem]; exact .mk _ _) trivial ?_
      refine ExL.nil ?_
      refine Wp.seq ?_
      refine Wp.regionE [0, 1, 2, 6, 7, 8, 9, 15, 16, 17] (by simp [trim]; exact .mk _) ?_
      refine ExL.st Hz hP hnt rfl rfl (by decide) (by simp [go_sem]; exact .mk _ _) (by first | exact True.intro | exact und9 | exact und4 | (unfold r64; omega) | omega | (simp; omega)) ?_
      refine ExL.st Hz hP hnt rfl rfl (by decide) (by simp [go_sem]; exact .mk _ _) (by first | exact True.intro | exact und9 | exact und4 | (unfold r64; omega) | omega | (simp; omega)) ?_
      refine ExL.st Hz hP hnt rfl rfl (by decide) (by simp [go_sem, hc2, hlt]; exact .mk _ _) (by first | exact True.intro | exact und9 | exact und4 | (unfold r64; omega) | omega | (simp; omega)) ?_
      refine ExL.st Hz hP hnt rfl rfl (by decide) (by simp [go_sem]; exact .mk _ _) (by first | exact True.intro | exact und9 | exact und4 | (unfold r64; omega) | omega | (simp; omega)) ?_
      refine ExL.ef Hz hP hnt hnp rfl (by decide) (by simp [go_sem]; exact .mk _ _) trivial ?_
      refine ExL.ef Hz hP hnt hnp rfl (by decide) (by simp [go_sem]; exact .mk _ _) trivial ?_
      refine ExL.nil ?_
      refine Wp.seq ?_
      refine Wp.regionE [0, 1, 2, 6, 7, 8, 9, 15, 16, 17] (by simp [trim]; exact .mk _) ?_
      refine ExL.st Hz hP hnt rfl rfl (by decide) (by simp [go_sem]; exact .mk _ _) (by first | exact True.intro | exact und9 | exact und4 | (unfold r64; omega) | omega | (simp; omega)) ?_
      refine ExL.st Hz hP hnt rfl rfl (by decide) (by simp [go_sem]; exact .mk _ _) (by first | exact True.intro | exact und9 | exact und4 | (unfold r64; omega) | omega | (simp; omega)) ?_
      refine ExL.st Hz hP hnt rfl rfl (by decide) (by simp [go_sem]; exact .mk _ _) (by first | exact True.intro | exact und9 | exact und4 | (unfold r64; omega) | omega | (simp; omega)) ?_
      refine ExL.callClo (hp xs[i] (by simp) (ys[i]'(by omega)) (by simp)) hf hP hnt rfl rfl (by simp [go_sem]; exact .mk _ _ _ _) rfl (by decide) hfb rfl (by simp [go_sem]; exact .mk _ _) (by simp [go_sem, Vsle, Vle, ACsle, ACle, ACsle.refl]) (by simp [go_sem]) ?_
      refine ExL.st Hz hP hnt rfl rfl (by decide) (by simp [go_sem]; exact .mk _ _) (by first | exact True.intro | exact und9 | exact und4 | (unfold r64; omega) | omega | (simp; omega)) ?_
      refine ExL.nil ?_
      refine Wp.condE (by simp [go_sem]; exact .mk _ _ _) ?_ ?_
      · intro hc3
        try simp at hc3
        refine Wp.seq ?_
        refine Wp.regionE [0, 1, 2, 6, 7, 8, 9, 15, 16, 17] (by simp [trim]; exact .mk _) ?_
        refine ExL.st Hz hP hnt rfl rfl (by decide) (by simp [go_sem]; exact .mk _ _) (by first | exact True.intro | exact und9 | exact und4 | (unfold r64; omega) | omega | (simp; omega)) ?_
        refine ExL.nil ?_
        refine Wp.ret ?_
        refine retQ.mk (by simp [go_sem]; exact .mk _ _) ?_
        first | (have hne : ¬ xs.length = ys.length := (by omega); simp [go_sem, Vsle, Vle, ACle, eqR, hne]; done) | (simp [go_sem, Vsle, Vle, ACle, eqR, q2, eqF_drop eqGd xs ys i hc2 (by omega), hlen, hc3]; done) | (simp [go_sem, Vsle, Vle, ACle, eqR, q2, hlen]; rw [List.drop_eq_nil_of_le (by omega)]; simp [eqF])
      · intro hc3
        try simp at hc3
        refine Wp.skip ?_
        refine Wp.regionE [0, 1, 2, 6, 7, 8, 9, 15, 16, 17] (by simp [trim]; exact .mk _) ?_
        refine ExL.st Hz hP hnt rfl rfl (by decide) (by simp [go_sem]; exact .mk _ _) (by first | exact True.intro | exact und9 | exact und4 | (unfold r64; omega) | omega | (simp; omega)) ?_
        refine ExL.st Hz hP hnt rfl rfl (by decide) (by simp [go_sem]; exact .mk _ _) (by first | exact True.intro | exact und9 | exact und4 | (unfold r64; omega) | omega | (simp; omega)) ?_
        refine ExL.nil ?_
        exact ⟨⟨i + 1, hc2, by rw [q2, eqF_drop eqGd xs ys i hc2 (by omega), hc3, Bool.true_and]⟩, LeL.le (by simp [go_sem, LeL, AVle, Vle, ACsle, ACle]), by show xs.length - (i + 1) < xs.length - i; omega⟩
    · intro hc2
      try simp at hc2
      refine Wp.exit ?_
      refine Wp.seq ?_
      refine Wp.regionE [0, 1, 2, 6, 7, 8, 9, 15, 16, 17] (by simp [trim]; exact .mk _) ?_
      refine ExL.st Hz hP hnt rfl rfl (by decide) (by simp [go_sem]; exact .mk _ _) (by first | exact True.intro | exact und9 | exact und4 | (unfold r64; omega) | omega | (simp; omega)) ?_
      refine ExL.nil ?_
      refine Wp.ret ?_
      refine retQ.mk (by simp [go_sem]; exact .mk _ _) ?_
      first | (have hne : ¬ xs.length = ys.length := (by omega); simp [go_sem, Vsle, Vle, ACle, eqR, hne]; done) | (simp [go_sem, Vsle, Vle, ACle, eqR, q2, eqF_drop eqGd xs ys i hc2 (by omega), hlen, hc3]; done) | (simp [go_sem, Vsle, Vle, ACle, eqR, q2, hlen]; rw [List.drop_eq_nil_of_le (by omega)]; simp [eqF])
theorem w55 (xs ys : List ByteArray) (hx : xs.length ≤ 281474976710656) :
    PC Try.prog 55 ([vSs xs, vSs ys].map .val) [vB (eqR eqSt xs ys)] [] := by
  refine PC_of Try.func55 rfl rfl Try.ntmps55 (by simp) fun E hP hnt hnp => ?_
  simp only [vSs, vI, List.map_cons, List.map_nil, dv_raw, dv_sl, dv_ptr, dv_fn, inMap, Nat.reduceAdd]
  refine Wp.seq ?_
  refine Wp.regionE [0, 1, 4, 5, 12, 13] (by simp [trim]; exact .mk _) ?_
  refine ExL.st Hz hP hnt rfl rfl (by decide) (by simp [go_sem]; exact .mk _ _) (by first | exact True.intro | exact und9 | exact und4 | (unfold r64; omega) | omega | (simp; omega)) ?_
  refine ExL.nil ?_
  refine Wp.seq ?_
  refine Wp.seq ?_
  refine Wp.regionE [0, 1, 4, 5, 12, 13] (by simp [trim]; exact .mk _) ?_
  refine ExL.st Hz hP hnt rfl rfl (by decide) (by simp [go_sem]; exact .mk _ _) (by first | exact True.intro | exact und9 | exact und4 | (unfold r64; omega) | omega | (simp; omega)) ?_
  refine ExL.st Hz hP hnt rfl rfl (by decide) (by simp [go_sem]; exact .mk _ _) (by first | exact True.intro | exact und9 | exact und4 | (unfold r64; omega) | omega | (simp; omega)) ?_
  refine ExL.st Hz hP hnt rfl rfl (by decide) (by simp [go_sem]; exact .mk _ _) (by first | exact True.intro | exact und9 | exact und4 | (unfold r64; omega) | omega | (simp; omega)) ?_
  refine ExL.st Hz hP hnt rfl rfl (by decide) (by simp [go_sem]; exact .mk _ _) (by first | exact True.intro | exact und9 | exact und4 | (unfold r64; omega) | omega | (simp; omega)) ?_
  refine ExL.st Hz hP hnt rfl rfl (by decide) (by simp [go_sem]; exact .mk _ _) (by first | exact True.intro | exact und9 | exact und4 | (unfold r64; omega) | omega | (simp; omega)) ?_
  refine ExL.nil ?_
  refine Wp.condE (by simp [go_sem]; exact .mk _ _ _) ?_ ?_
  · intro hc1
    try simp at hc1
    refine Wp.seq ?_
    refine Wp.regionE [0, 1, 4, 5, 12, 13] (by simp [trim]; exact .mk _) ?_
    refine ExL.st Hz hP hnt rfl rfl (by decide) (by simp [go_sem]; exact .mk _ _) (by first | exact True.intro | exact und9 | exact und4 | (unfold r64; omega) | omega | (simp; omega)) ?_
    refine ExL.nil ?_
    refine Wp.ret ?_
    refine retQ.mk (by simp [go_sem]; exact .mk _ _) ?_
    first | (have hne : ¬ xs.length = ys.length := (by omega); simp [go_sem, Vsle, Vle, ACle, eqR, hne]; done) | (simp [go_sem, Vsle, Vle, ACle, eqR, q2, eqF_drop eqSt xs ys i hc2 (by omega), hlen, hc3, eqSt]; done) | (simp [go_sem, Vsle, Vle, ACle, eqR, q2, hlen]; rw [List.drop_eq_nil_of_le (by omega)]; simp [eqF])
  · intro hc1
    try simp at hc1
    refine Wp.skip ?_
    refine Wp.seq ?_
    refine Wp.seq ?_
    refine Wp.regionE [0, 1, 4, 5, 12, 13] (by simp [trim]; exact .mk _) ?_
    refine ExL.st Hz hP hnt rfl rfl (by decide) (by simp [go_sem]; exact .mk _ _) (by first | exact True.intro | exact und9 | exact und4 | (unfold r64; omega) | omega | (simp; omega)) ?_
    refine ExL.st Hz hP hnt rfl rfl (by decide) (by simp [go_sem]; exact .mk _ _) (by first | exact True.intro | exact und9 | exact und4 | (unfold r64; omega) | omega | (simp; omega)) ?_
    refine ExL.st Hz hP hnt rfl rfl (by decide) (by simp [go_sem]; exact .mk _ _) (by first | exact True.intro | exact und9 | exact und4 | (unfold r64; omega) | omega | (simp; omega)) ?_
    refine ExL.nil ?_
    refine Wp.block ?_
    refine Wp.loop (ι := { j : Nat // j ≤ xs.length ∧ eqF eqSt xs ys = eqF eqSt (xs.drop j) (ys.drop j) }) (fun j => [(0, .val (vSs xs)), (3, .val (vSs ys)), (36, .val (vI xs.length)), (39, .val (vI j.1))]) (fun j => xs.length - j.1) ⟨0, by simp, by simp⟩ (LeL.le (by simp [go_sem, LeL, AVle, Vle, ACsle, ACle])) ?_
    intro j
    obtain ⟨i, q1, q2⟩ := j
    show Wp _ _ _ [(0, .val (vSs xs)), (3, .val (vSs ys)), (36, .val (vI xs.length)), (39, .val (vI i))]
    have hlen : xs.length = ys.length := by omega
    have hlt : i < xs.length → i < ys.length := fun h => by omega
    refine Wp.seq ?_
    refine Wp.regionE [0, 1, 4, 5, 12, 13] (by simp [trim]; exact .mk _) ?_
    refine ExL.st Hz hP hnt rfl rfl (by decide) (by simp [go_sem]; exact .mk _ _) (by first | exact True.intro | exact und9 | exact und4 | (unfold r64; omega) | omega | (simp; omega)) ?_
    refine ExL.nil ?_
    refine Wp.seq ?_
    refine Wp.condE (by simp [go_sem]; exact .mk _ _ _) ?_ ?_
    · intro hc2
      try simp at hc2
      refine Wp.skip ?_
      refine Wp.seq ?_
      refine Wp.block ?_
      refine Wp.seq ?_
      refine Wp.regionE [0, 1, 4, 5, 12, 13] (by simp [trim]; exact .mk _) ?_
      refine ExL.st Hz hP hnt rfl rfl (by decide) (by simp [go_sem]; exact .mk _ _) (by first | exact True.intro | exact und9 | exact und4 | (unfold r64; omega) | omega | (simp; omega)) ?_
      refine ExL.st Hz hP hnt rfl rfl (by decide) (by simp [go_sem]; exact .mk _ _) (by first | exact True.intro | exact und9 | exact und4 | (unfold r64; omega) | omega | (simp; omega)) ?_
      refine ExL.nil ?_
      refine Wp.seq ?_
      refine Wp.drawE [0, 1, 4, 5, 12, 13] 8 (by rw [hP]; exact mixed) (by kernel_rfl) (by simp [trim]; exact .mk _) ?_
      refine ExS.st Hz hP hnt rfl rfl (by decide) (by simp [go_sem]; exact .mk _ _) (by first | exact True.intro | exact und9 | exact und4 | (unfold r64; omega) | omega | (simp; omega)) ?_
      refine ExS.st Hz hP hnt rfl rfl (by decide) (by simp [go_sem]; exact .mk _ _) (by first | exact True.intro | exact und9 | exact und4 | (unfold r64; omega) | omega | (simp; omega)) ?_
      refine ExS.st Hz hP hnt rfl rfl (by decide) (by simp [go_sem, hc2]; exact .mk _ _) (by first | exact True.intro | exact und9 | exact und4 | (unfold r64; omega) | omega | (simp; omega)) ?_
      refine ExS.st Hz hP hnt rfl rfl (by decide) (by simp [go_sem]; exact .mk _ _) (by first | exact True.intro | exact und9 | exact und4 | (unfold r64; omega) | omega | (simp; omega)) ?_
      refine ExS.st Hz hP hnt rfl rfl (by decide) (by simp [go_sem]; exact .mk _ _) (by first | exact True.intro | exact und9 | exact und4 | (unfold r64; omega) | omega | (simp; omega)) ?_
      refine ExS.st Hz hP hnt rfl rfl (by decide) (by simp [go_sem]; exact .mk _ _) (by first | exact True.intro | exact und9 | exact und4 | (unfold r64; omega) | omega | (simp; omega)) ?_
      refine ExS.st Hz hP hnt rfl rfl (by decide) (by simp [go_sem, hc2, hlt]; exact .mk _ _) (by first | exact True.intro | exact und9 | exact und4 | (unfold r64; omega) | omega | (simp; omega)) ?_
      refine ExS.st Hz hP hnt rfl rfl (by decide) (by simp [go_sem]; exact .mk _ _) (by first | exact True.intro | exact und9 | exact und4 | (unfold r64; omega) | omega | (simp; omega)) ?_
      refine ExS.nil ?_
      refine ExL.st Hz hP hnt rfl rfl (by decide) (by simp [go_sem]; exact .mk _ _) (by first | exact True.intro | exact und9 | exact und4 | (unfold r64; omega) | omega | (simp; omega)) ?_
      refine ExL.nil ?_
      refine Wp.condE (by simp [go_sem]; exact .mk _ _ _) ?_ ?_
      · intro hc3
        try simp at hc3
        refine Wp.seq ?_
        refine Wp.regionE [0, 1, 4, 5, 12, 13] (by simp [trim]; exact .mk _) ?_
        refine ExL.st Hz hP hnt rfl rfl (by decide) (by simp [go_sem]; exact .mk _ _) (by first | exact True.intro | exact und9 | exact und4 | (unfold r64; omega) | omega | (simp; omega)) ?_
        refine ExL.nil ?_
        refine Wp.ret ?_
        refine retQ.mk (by simp [go_sem]; exact .mk _ _) ?_
        first | (have hne : ¬ xs.length = ys.length := (by omega); simp [go_sem, Vsle, Vle, ACle, eqR, hne]; done) | (simp [go_sem, Vsle, Vle, ACle, eqR, q2, eqF_drop eqSt xs ys i hc2 (by omega), hlen, hc3, eqSt]; done) | (simp [go_sem, Vsle, Vle, ACle, eqR, q2, hlen]; rw [List.drop_eq_nil_of_le (by omega)]; simp [eqF])
      · intro hc3
        try simp at hc3
        refine Wp.skip ?_
        refine Wp.regionE [0, 1, 4, 5, 12, 13] (by simp [trim]; exact .mk _) ?_
        refine ExL.st Hz hP hnt rfl rfl (by decide) (by simp [go_sem]; exact .mk _ _) (by first | exact True.intro | exact und9 | exact und4 | (unfold r64; omega) | omega | (simp; omega)) ?_
        refine ExL.st Hz hP hnt rfl rfl (by decide) (by simp [go_sem]; exact .mk _ _) (by first | exact True.intro | exact und9 | exact und4 | (unfold r64; omega) | omega | (simp; omega)) ?_
        refine ExL.nil ?_
        exact ⟨⟨i + 1, hc2, by rw [q2, eqF_drop eqSt xs ys i hc2 (by omega)]; simp [eqSt, hc3]⟩, LeL.le (by simp [go_sem, LeL, AVle, Vle, ACsle, ACle]), by show xs.length - (i + 1) < xs.length - i; omega⟩
    · intro hc2
      try simp at hc2
      refine Wp.exit ?_
      refine Wp.seq ?_
      refine Wp.regionE [0, 1, 4, 5, 12, 13] (by simp [trim]; exact .mk _) ?_
      refine ExL.st Hz hP hnt rfl rfl (by decide) (by simp [go_sem]; exact .mk _ _) (by first | exact True.intro | exact und9 | exact und4 | (unfold r64; omega) | omega | (simp; omega)) ?_
      refine ExL.nil ?_
      refine Wp.ret ?_
      refine retQ.mk (by simp [go_sem]; exact .mk _ _) ?_
      first | (have hne : ¬ xs.length = ys.length := (by omega); simp [go_sem, Vsle, Vle, ACle, eqR, hne]; done) | (simp [go_sem, Vsle, Vle, ACle, eqR, q2, eqF_drop eqSt xs ys i hc2 (by omega), hlen, hc3, eqSt]; done) | (simp [go_sem, Vsle, Vle, ACle, eqR, q2, hlen]; rw [List.drop_eq_nil_of_le (by omega)]; simp [eqF])
end Go.RF.S
