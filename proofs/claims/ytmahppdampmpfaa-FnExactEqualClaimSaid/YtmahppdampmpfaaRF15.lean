/- A logic over the walk in which memory is hidden, part 15: code, exits and loops. -/
import Derived.Test.YtmahppdampmpfaaRF14
set_option linter.unusedVariables false
namespace Go.RF
open Go.RowKit (Below)

abbrev Mp := List (Nat × AV)

/-- From any state of which this is known the code comes to an exit behind which that is known. -/
def Wp (E : Env) (c : Code) (Q : Exit → Mp → Prop) (m : Mp) : Prop :=
  ∀ a w, Rel E ⟨m⟩ a w → c.wp E.P (fun e a' w' => ∃ m', Q e m' ∧ Rel E ⟨m'⟩ a' w') a w

def thenQ (next : Mp → Prop) (Q : Exit → Mp → Prop) : Exit → Mp → Prop
  | .normal, m => next m
  | e, m => Q e m
def blockQ (id : Nat) (Q : Exit → Mp → Prop) : Exit → Mp → Prop
  | .exit id', m => if id' = id then Q .normal m else Q (.exit id') m
  | e, m => Q e m

theorem Wp.seq {E : Env} {x y : Code} {Q : Exit → Mp → Prop} {m : Mp} (h : Wp E x (thenQ (Wp E y Q) Q) m) : Wp E (.seq x y) Q m := by
  intro a w hr
  refine wp_seq (wp_mono (h a w hr) fun e a' w' hh => ?_)
  obtain ⟨m', hq, hr'⟩ := hh
  cases e with
  | normal => exact hq a' w' hr'
  | _ => exact ⟨m', hq, hr'⟩
theorem Wp.skip {E : Env} {Q : Exit → Mp → Prop} {m : Mp} (h : Q .normal m) : Wp E .skip Q m := fun a w hr => wp_skip ⟨m, h, hr⟩
theorem Wp.exit {E : Env} {id : Nat} {Q : Exit → Mp → Prop} {m : Mp} (h : Q (.exit id) m) : Wp E (.exit id) Q m := fun a w hr => wp_exit ⟨m, h, hr⟩
theorem Wp.ret {E : Env} {Q : Exit → Mp → Prop} {m : Mp} (h : Q .ret m) : Wp E .ret Q m := fun a w hr => wp_ret ⟨m, h, hr⟩
theorem Wp.block {E : Env} {id : Nat} {c : Code} {Q : Exit → Mp → Prop} {m : Mp} (h : Wp E c (blockQ id Q) m) : Wp E (.block id c) Q m := by
  intro a w hr
  refine wp_block (wp_mono (h a w hr) fun e a' w' hh => ?_)
  obtain ⟨m', hq, hr'⟩ := hh
  cases e with
  | exit id' =>
    simp only [Exit.inBlock, blockQ] at hq ⊢
    split
    · rename_i he; rw [if_pos he] at hq; exact ⟨m', hq, hr'⟩
    · rename_i he; rw [if_neg he] at hq; exact ⟨m', hq, hr'⟩
  | _ => exact ⟨m', hq, hr'⟩
theorem Wp.cond {E : Env} {c : Operand} {x y : Code} {Q : Exit → Mp → Prop} {m : Mp} {t : Bool} {cc oo : Bool} (hc : opd 0 m c = some (.one (.v (.raw (.bool t)) cc oo)))
    (h1 : t = true → Wp E x Q m) (h2 : t = false → Wp E y Q m) : Wp E (.cond c x y) Q m := by
  intro a w hr
  have he : a.eval c = .bool t := by
    obtain ⟨G, h⟩ := hr
    exact (opd_raw h hc).1
  exact wp_cond_split he (fun ht => h1 ht a w hr) (fun ht => h2 ht a w hr)
theorem Wp.weak {E : Env} {c : Code} {Q : Exit → Mp → Prop} {m m' : Mp} (h : Wp E c Q m) (hle : Le ⟨m⟩ ⟨m'⟩) : Wp E c Q m' :=
  fun a w ⟨G, hr⟩ => h a w ⟨_, hr.weaken hle _ (fun _ _ _ => id) (fun _ _ _ _ _ _ _ _ => id)⟩

/-- A loop with a ghost. -/
theorem wp_loop_g {P : Program} {Q : Exit → Act → World → Prop} {a : Act} {w : World} {c : Code} {ι : Type} (I : ι → Act → World → Prop) (μ : ι → Nat) (i0 : ι) (h0 : I i0 a w)
    (round : ∀ i a w, I i a w → c.wp P (Exit.then (fun a' w' => ∃ i', I i' a' w' ∧ μ i' < μ i) Q) a w) : (Code.loop c).wp P Q a w := by
  intro b k cs
  have key : ∀ n i a w, μ i = n → I i a w →
      ∃ e a' w', Q e a' w' ∧ Arrives P (lone (b.at a (.code c :: .inLoop c :: k)) cs w) b k cs e a' w' := by
    intro n
    induction n using Nat.strongRecOn with
    | _ n ih =>
      intro i a w hn hI
      obtain ⟨e, a1, w1, hq, harr⟩ := round i a w hI b (.inLoop c :: k) cs
      cases e with
      | normal =>
        obtain ⟨i', hI1, hlt⟩ := hq
        obtain ⟨e2, a2, w2, hq2, harr2⟩ := ih (μ i') (hn ▸ hlt) i' a1 w1 rfl hI1
        exact ⟨e2, a2, w2, hq2, .of_steps (Steps.trans harr (.one step_inLoop)) harr2⟩
      | exit id => exact ⟨_, a1, w1, hq, .pass (x := .inLoop c) rfl (fun _ _ => .inl (by simp)) harr⟩
      | goto l => exact ⟨_, a1, w1, hq, .pass (x := .inLoop c) rfl (fun _ _ => .inl (by simp)) harr⟩
      | ret => exact ⟨_, a1, w1, hq, .pass (x := .inLoop c) rfl (fun _ _ => .inl (by simp)) harr⟩
      | panic ch => exact ⟨_, a1, w1, hq, .pass (x := .inLoop c) rfl (fun _ _ => .inl (by simp)) harr⟩
      | outgrown => exact ⟨_, a1, w1, hq, .pass (x := .inLoop c) rfl (fun _ _ => .inl (by simp)) harr⟩
  obtain ⟨e, a', w', hq, harr⟩ := key _ i0 a w rfl h0
  exact ⟨e, a', w', hq, .of_steps (.one step_loop) harr⟩

theorem Wp.loop {E : Env} {c : Code} {Q : Exit → Mp → Prop} {m : Mp} {ι : Type} (I : ι → Mp) (μ : ι → Nat) (i0 : ι) (h0 : Le ⟨I i0⟩ ⟨m⟩)
    (step : ∀ i, Wp E c (thenQ (fun m' => ∃ i', Le ⟨I i'⟩ ⟨m'⟩ ∧ μ i' < μ i) Q) (I i)) : Wp E (.loop c) Q m := by
  intro a w ⟨G, hr⟩
  refine wp_loop_g (fun i a w => Rel E ⟨I i⟩ a w) μ i0 ⟨_, hr.weaken h0 _ (fun _ _ _ => id) (fun _ _ _ _ _ _ _ _ => id)⟩ fun i a w hi => ?_
  refine wp_mono (step i a w hi) fun e a' w' hh => ?_
  obtain ⟨m', hq, hr'⟩ := hh
  cases e with
  | normal =>
    obtain ⟨i', hle, hlt⟩ := hq
    obtain ⟨G', hr'⟩ := hr'
    exact ⟨i', ⟨_, hr'.weaken hle _ (fun _ _ _ => id) (fun _ _ _ _ _ _ _ _ => id)⟩, hlt⟩
  | _ => exact ⟨m', hq, hr'⟩
end Go.RF
