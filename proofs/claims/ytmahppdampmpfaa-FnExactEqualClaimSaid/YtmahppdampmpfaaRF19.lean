/- A logic over the walk in which memory is hidden, part 19: lists of operations and regions. -/
import Derived.Test.YtmahppdampmpfaaRF18
set_option linter.unusedVariables false
namespace Go.RF
open Go.RowKit (Below)

theorem Rel.weak {E : Env} {m m' : Mp} {a : Act} {w : World} (hle : Le ⟨m⟩ ⟨m'⟩) : Rel E ⟨m'⟩ a w → Rel E ⟨m⟩ a w :=
  fun ⟨_, h⟩ => ⟨_, h.weaken hle _ (fun _ _ _ => id) (fun _ _ _ _ _ _ _ _ => id)⟩

def ExL (E : Env) (ops : Array Oper) (r : List Oper) (Q : Exit → Mp → Prop) (m : Mp) : Prop :=
  ∀ a w, Rel E ⟨m⟩ a w → wpList E.P ops (fun e a' w' => ∃ m', Q e m' ∧ Rel E ⟨m'⟩ a' w') r a w

theorem ExL.nil {E : Env} {ops : Array Oper} {Q : Exit → Mp → Prop} {m : Mp} (h : Q .normal m) : ExL E ops [] Q m := fun a w hr => ⟨m, h, hr⟩
theorem ExL.go {E : Env} {ops : Array Oper} {o : Oper} {r : List Oper} {Q : Exit → Mp → Prop} {m m' : Mp} (hg : o.guard = none) (h : OpOK E m o m') (hk : ExL E ops r Q m') : ExL E ops (o :: r) Q m := by
  intro a w hr
  refine wpList_plain hg fun K hK => ?_
  have h1 := h a w (fun e a' w' => ∃ m', Q e m' ∧ Rel E ⟨m'⟩ a' w') hr
  exact Oper.wp_mono (fun a' w' hr' => hK a' w' (hk a' w' hr')) h1

theorem yields_of {E : Env} {m : Mp} {a : Act} {w : World} (hr : Rel E ⟨m⟩ a w) {ops : Array Oper} {g t : Nat} {b c o : Bool} (ht : (ops[g]?).bind (·.dst) = some t) (hlt : t < E.nt)
    (hb : look m (3 * t) = some (.val (.one (.v (.raw (.bool b)) c o)))) : yielded ops a.tmps g = some b := by
  obtain ⟨G, h⟩ := hr
  have h1 := (opd_raw (wd := 0) (x := .tmp t) (u := .bool b) (c := c) (o := o) h (by simp [opd, hb])).1
  have hsz : t < a.tmps.size := by rw [h.nt]; exact hlt
  simp only [Act.eval, Array.getD, hsz, dif_pos] at h1
  unfold yielded
  rw [ht]
  simp only [Option.bind_some]
  have : a.tmps[t]? = some (.bool b) := by simp only [Array.getElem?_eq_getElem hsz]; exact congrArg some h1
  rw [this]

theorem ExL.on {E : Env} {ops : Array Oper} {o : Oper} {r : List Oper} {Q : Exit → Mp → Prop} {m m' : Mp} {g t : Nat} {want c x : Bool} (hg : o.guard = some (g, want)) (ht : (ops[g]?).bind (·.dst) = some t) (hlt : t < E.nt)
    (hb : look m (3 * t) = some (.val (.one (.v (.raw (.bool want)) c x)))) (h : OpOK E m o m') (hk : ExL E ops r Q m') : ExL E ops (o :: r) Q m := by
  intro a w hr
  refine wpList_step fun K hK => ?_
  have hw : Region.wanted o (yielded ops a.tmps) = true := by
    unfold Region.wanted; rw [hg]; simp only [yields_of hr ht hlt hb]; simp
  rw [if_pos hw]
  have h1 := h a w (fun e a' w' => ∃ m', Q e m' ∧ Rel E ⟨m'⟩ a' w') hr
  exact Oper.wp_mono (fun a' w' hr' => hK a' w' (hk a' w' hr')) h1

theorem Rel.skip {E : Env} {m : Mp} {a : Act} {w : World} {d : Nat} (hlt : d < E.nt) (u : Value) : Rel E ⟨m⟩ a w → Rel E ⟨put m (3 * d) (.cnd False (.one (.bp 0 0)))⟩ (a.put (some d) u) w := by
  rintro ⟨G, h⟩
  exact ⟨_, h.slot d hlt (.cnd False (.one (.bp 0 0))) u (fun _ => undef) (fun _ _ => False) (fun h => h.elim) (fun h => h.elim) (fun h => h.elim) (fun _ _ h => h.elim)⟩

theorem ExL.off {E : Env} {ops : Array Oper} {o : Oper} {r : List Oper} {Q : Exit → Mp → Prop} {m : Mp} {g t d : Nat} {want c x : Bool} (hg : o.guard = some (g, want)) (ht : (ops[g]?).bind (·.dst) = some t) (hlt : t < E.nt)
    (hb : look m (3 * t) = some (.val (.one (.v (.raw (.bool (!want))) c x)))) (hd : o.dst = some d) (hdl : d < E.nt) (hk : ExL E ops r Q (put m (3 * d) (.cnd False (.one (.bp 0 0))))) : ExL E ops (o :: r) Q m := by
  intro a w hr
  refine wpList_step fun K hK => ?_
  have hw : ¬ Region.wanted o (yielded ops a.tmps) = true := by
    unfold Region.wanted; rw [hg]; simp only [yields_of hr ht hlt hb]; cases want <;> simp
  rw [if_neg hw, hd]
  exact hK _ _ (hk _ _ (hr.skip hdl undef))

theorem put_self_le {m : Mp} {κ : Nat} {av av' : AV} (h : look m κ = some av) (hle : AVle av' av) : Le ⟨put m κ av'⟩ ⟨m⟩ := by
  intro j x hx
  simp only [look_put] at hx
  split at hx
  · rename_i he; subst he
    obtain rfl : av' = x := by simpa using hx
    exact ⟨av, h, hle⟩
  · exact ⟨x, hx, AVle.refl x⟩

/-- Both values of a truth value. -/
theorem ExL.split {E : Env} {ops : Array Oper} {r : List Oper} {Q : Exit → Mp → Prop} {m : Mp} (t : Nat) {b c o : Bool} (hb : look m (3 * t) = some (.val (.one (.v (.raw (.bool b)) c o))))
    (h1 : b = true → ExL E ops r Q (put m (3 * t) (.val (.one (.v (.raw (.bool true)) c o))))) (h2 : b = false → ExL E ops r Q (put m (3 * t) (.val (.one (.v (.raw (.bool false)) c o))))) : ExL E ops r Q m := by
  intro a w hr
  cases b with
  | true => exact h1 rfl a w (hr.weak (put_self_le hb (AVle.refl _)))
  | false => exact h2 rfl a w (hr.weak (put_self_le hb (AVle.refl _)))

/-- What is kept at the start of a region. -/
def trim (kp : List Nat) (m : Mp) : Mp := m.filter fun p => p.1 % 3 == 1 || kp.contains (p.1 / 3)
theorem trim_le (kp : List Nat) (m : Mp) : Le ⟨trim kp m⟩ ⟨m⟩ := by
  intro κ av h
  refine ⟨av, ?_, AVle.refl av⟩
  induction m with
  | nil => simp [trim, look] at h
  | cons p r ih =>
    obtain ⟨k, x⟩ := p
    simp only [trim, List.filter_cons] at h
    simp only [look]
    split at h
    · simp only [look] at h
      split
      · rename_i he; rw [if_pos he] at h; exact h
      · rename_i he; rw [if_neg he] at h; exact ih h
    · rename_i hf
      split
      · rename_i he
        subst he
        exfalso
        apply hf
        have : ∀ (r : Mp), look (List.filter (fun p => p.1 % 3 == 1 || kp.contains (p.1 / 3)) r) k = some av → (k % 3 == 1 || kp.contains (k / 3)) = true := by
          intro r
          induction r with
          | nil => simp [look]
          | cons q r ih =>
            obtain ⟨k', x'⟩ := q
            intro h
            simp only [List.filter_cons] at h
            split at h
            · rename_i hh
              simp only [look] at h
              split at h
              · rename_i he; subst he; exact hh
              · exact ih h
            · exact ih h
        exact this r h
      · exact ih h

theorem Wp.region {E : Env} {id : Nat} {l : List Oper} {Q : Exit → Mp → Prop} {m : Mp} (kp : List Nat) (h : ExL E l.toArray l Q (trim kp m)) : Wp E (.region id l.toArray false) Q m := by
  intro a w hr
  exact wp_region_lit (h a w (hr.weak (trim_le kp m)))

theorem Wp.weakm {E : Env} {c : Code} {Q : Exit → Mp → Prop} {m : Mp} (m1 : Mp) (hle : Le ⟨m1⟩ ⟨m⟩) (h : Wp E c Q m1) : Wp E c Q m := fun a w hr => h a w (hr.weak hle)

/-! ### drawn regions: first what changes nothing, then the rest in order -/
def ExS (E : Env) (ops : Array Oper) (r : List Oper) (Q : Mp → Prop) (m : Mp) : Prop :=
  ∀ a w, Rel E ⟨m⟩ a w → wpStill E.P ops w (fun a' => ∃ m', Q m' ∧ Rel E ⟨m'⟩ a' w) r a
theorem ExS.nil {E : Env} {ops : Array Oper} {Q : Mp → Prop} {m : Mp} (h : Q m) : ExS E ops [] Q m := fun a w hr => ⟨m, h, hr⟩
theorem ExS.go {E : Env} {ops : Array Oper} {o : Oper} {r : List Oper} {Q : Mp → Prop} {m m' : Mp} (hg : o.guard = none) (h : OpSt E m o m') (hk : ExS E ops r Q m') : ExS E ops (o :: r) Q m := by
  intro a w hr
  obtain ⟨u, h1, h2⟩ := h a w hr
  unfold wpStill
  rw [if_pos (by simp [Region.wanted, hg])]
  unfold Oper.still
  rw [h1, Oper.stillUpon_value]
  exact hk _ _ h2

theorem Rel.drawn {E : Env} {m : Mp} {a : Act} {w : World} (n : Nat) : Rel E ⟨m⟩ a w → Rel E ⟨m⟩ a { w with drawn := n } := by
  rintro ⟨G, h⟩
  exact ⟨_, h.after (w' := { w with drawn := n }) (fun _ => False) G.F (Nat.le_refl _) rfl rfl rfl (fun _ _ _ => rfl) (fun _ _ => id) (fun _ _ => .inl) h.fsz (fun _ _ _ => rfl) (fun _ h => h.elim)⟩

theorem still_mono' {P : Program} {ops : Array Oper} {w : World} {Q Q' : Act → Prop} (h : ∀ a, Q a → Q' a) : ∀ (l : List Oper) (a : Act), wpStill P ops w Q l a → wpStill P ops w Q' l a
  | [], a, hh => h a hh
  | o :: l, a, hh => by
    unfold wpStill at hh ⊢
    split
    · rename_i hw
      rw [if_pos hw] at hh
      exact Oper.still_mono (fun a => still_mono' h l a) hh
    · rename_i hw
      rw [if_neg hw] at hh
      exact still_mono' h l _ hh

theorem Wp.draw {E : Env} {id : Nat} {l : List Oper} {Q : Exit → Mp → Prop} {m : Mp} (kp : List Nat) (n : Nat) (hm : E.P.follows .mixedOrders = true) (hB : Region.lexTailB .any l.toArray n = true)
    (h : ExS E l.toArray (l.take n) (ExL E l.toArray (l.drop n) Q) (trim kp m)) : Wp E (.region id l.toArray true) Q m := by
  intro a w hr
  refine wp_region_still_tail n hm hB ?_
  have h1 := h a _ ((hr.weak (trim_le kp m)).drawn (w.drawn + 1))
  refine still_mono' (fun a' hh => ?_) _ _ h1
  obtain ⟨m', hq, hr'⟩ := hh
  exact hq a' _ hr'
end Go.RF
