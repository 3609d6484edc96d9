/- A logic over the walk in which memory is hidden, part 6: operands on their way. -/
import Derived.Test.YtmahppdampmpfaaRF5
import Derived.Great.BuildSlice
set_option linter.unusedVariables false
namespace Go.RF
open Go.RowKit (Below)

def cC (wd : Nat) : Value → AC
  | .slice none 0 0 => .v (.sl wd []) true true
  | u => .v (.raw u) false true
def cV (wd : Nat) (u : Value) : V := .one (cC wd u)
/-- What is known of an operand. -/
def opd (wd : Nat) (m : List (Nat × AV)) : Operand → Option V
  | .tmp t => match look m (3 * t) with
    | some (.val v) => some v
    | _ => none
  | .const c => if c.oneCell' then some (cV wd c) else none
  | .func f => some (.one (.v (.fn f []) false true))
  | .global _ => none

structure VOK (G : Gh) (w : World) (v : V) (u : Value) (val : Nat → Value) (own : Nat → Nat → Prop) : Prop where
  sh : VSh val 0 v u
  cells : ∀ i ac, v.acs[i]? = some ac → ACR G.F G.bm (own i) w ac (val i)

theorem cC_ok (F : Fz) (bm : Nat → Nat) (w : World) (wd : Nat) (c : Value) (h : c.oneCell' = true) : ACR F bm (fun _ => False) w (cC wd c) c ∧ spareB c = none ∨ ACR F bm (fun _ => False) w (cC wd c) c ∧ (cC wd c).cap = false := by
  unfold cC
  split
  · refine .inl ⟨⟨[], ?_, fun _ => by simp [spareB], fun _ => ⟨wd, [], rfl, none, 0, 0, rfl, Nat.le_refl _, .inl rfl⟩⟩, rfl⟩
    simp only [Rd]
    exact ⟨none, 0, rfl, Nat.le_refl _, Nat.zero_le _, by simp, by simp⟩
  · exact .inr ⟨⟨[], by simp [Rd, h], fun _ => by simp, fun h => by simp at h⟩, rfl⟩
theorem cC_acr (F : Fz) (bm : Nat → Nat) (w : World) (wd : Nat) (c : Value) (h : c.oneCell' = true) : ACR F bm (fun _ => False) w (cC wd c) c ∧ ((cC wd c).cap = true → spareB c = none) := by
  rcases cC_ok F bm w wd c h with ⟨h1, h2⟩ | ⟨h1, h2⟩
  · exact ⟨h1, fun _ => h2⟩
  · exact ⟨h1, fun h => by rw [h2] at h; simp at h⟩
theorem cV_ok (G : Gh) (w : World) (wd : Nat) (c : Value) (h : c.oneCell' = true) : VOK G w (cV wd c) c (fun _ => c) (fun _ _ => False) := by
  refine ⟨rfl, fun i ac hi => ?_⟩
  cases i with
  | zero =>
    obtain rfl : _ = ac := by simpa [V.acs, cV] using hi
    exact (cC_acr G.F G.bm w wd c h).1
  | succ i => simp [V.acs, cV] at hi

theorem opd_ok {E : Env} {G : Gh} {m : List (Nat × AV)} {a : Act} {w : World} (h : RelG E G ⟨m⟩ a w) {wd : Nat} {x : Operand} {v : V} (hx : opd wd m x = some v) :
    ∃ val own, VOK G w v (a.eval x) val own := by
  cases x with
  | tmp t =>
    simp only [opd] at hx
    split at hx
    · rename_i v' hl
      obtain rfl : v' = v := by simpa using hx
      exact ⟨G.val (3 * t), G.own (3 * t), h.slots t _ hl trivial, fun i ac hi => h.cells (3 * t) _ hl trivial i ac hi⟩
    · simp at hx
  | const c =>
    simp only [opd] at hx
    split at hx
    · rename_i hc
      obtain rfl : _ = v := by simpa using hx
      exact ⟨_, _, cV_ok G w wd c hc⟩
    · simp at hx
  | func f =>
    obtain rfl : _ = v := by simpa [opd] using hx
    refine ⟨fun _ => .func (.func f) #[] #[], fun _ _ => False, rfl, fun i ac hi => ?_⟩
    cases i with
    | zero =>
      obtain rfl : _ = ac := by simpa [V.acs] using hi
      exact ⟨[], by simp only [Rd]; exact ⟨[], rfl, by simp [RdL]⟩, fun _ => by simp, fun h => by simp at h⟩
    | succ i => simp [V.acs] at hi
  | global g => simp [opd] at hx

theorem opd_raw {E : Env} {G : Gh} {m : List (Nat × AV)} {a : Act} {w : World} (h : RelG E G ⟨m⟩ a w) {wd : Nat} {x : Operand} {u : Value} {c o : Bool}
    (hx : opd wd m x = some (.one (.v (.raw u) c o))) : a.eval x = u ∧ u.oneCell' = true := by
  obtain ⟨val, own, hs, hc⟩ := opd_ok h hx
  obtain ⟨B, h1, _⟩ := hc 0 _ rfl
  simp only [Rd] at h1
  exact ⟨hs.trans h1.1, h1.1 ▸ h1.2.1⟩


theorem Drop.refl (m : List (Nat × AV)) : Drop (fun _ _ => False) m m := by
  intro κ
  cases hk : look m κ with
  | none => rfl
  | some av => exact Drop.id_at (S := fun _ _ => False) (κ := κ) fun _ => id

theorem dr_dr (c : AC) : dr (dr c) = dr c := by
  cases c with
  | v d c o => cases d <;> rfl
  | bp k o => rfl
  | bs k o => rfl

theorem Drop.trans {S S' : Nat → Nat → Prop} {m m' m'' : List (Nat × AV)} (h : Drop S m m') (h' : Drop S' m' m'') : Drop (fun κ i => S κ i ∨ S' κ i) m m'' := by
  intro κ
  have h2 := h' κ
  cases hk : look m'' κ with
  | none =>
    rw [hk] at h2
    have h1 := h κ
    rw [h2] at h1
    exact h1
  | some av'' =>
    rw [hk] at h2
    obtain ⟨av', k1, k2, k3, k4, k5⟩ := h2
    have h1 := h κ
    rw [k1] at h1
    obtain ⟨av, l1, l2, l3, l4, l5⟩ := h1
    refine ⟨av, l1, k2.trans l2, fun val u hh => k3 val u (l3 val u hh), fun cs hc => ?_, fun i ac'' hi => ?_⟩
    · obtain ⟨cs', rfl, e1⟩ := l4 cs hc
      obtain ⟨cs'', rfl, e2⟩ := k4 cs' rfl
      exact ⟨cs'', rfl, e2.trans e1⟩
    · obtain ⟨ac', hi', hor⟩ := k5 i ac'' hi
      obtain ⟨ac, hi0, hor0⟩ := l5 i ac' hi'
      refine ⟨ac, hi0, ?_⟩
      rcases hor with ⟨rfl, hn⟩ | rfl
      · rcases hor0 with ⟨rfl, hn0⟩ | rfl
        · exact .inl ⟨rfl, fun hh => hh.elim hn0 hn⟩
        · exact .inr rfl
      · rcases hor0 with ⟨rfl, hn0⟩ | rfl
        · exact .inr rfl
        · exact .inr (dr_dr ac)

/-- Cells that are on their way to a new place: from where they come, and what is left behind. -/
structure Taken (G : Gh) (w : World) (m m' : List (Nat × AV)) (acs : List AC) (vals : List Value) (S : Nat → Nat → Prop) (src : Nat → Option (Nat × Nat)) : Prop where
  drop : Drop S m m'
  len : vals.length = acs.length
  cell : ∀ i ac, acs[i]? = some ac → match src i with
    | none => ACR G.F G.bm (fun _ => False) w ac (vals.getD i undef) ∧ (ac.cap = true → spareB (vals.getD i undef) = none)
    | some (κ, j) => S κ j ∧ vals.getD i undef = G.val κ j ∧ ∃ av, look m κ = some av ∧ av.on ∧ av.acs[j]? = some ac
  inj : ∀ i i' p, i < acs.length → i' < acs.length → src i = some p → src i' = some p → i = i'

def ownOf (G : Gh) (src : Nat → Option (Nat × Nat)) (n i : Nat) (b : Nat) : Prop := i < n ∧ match src i with
  | none => False
  | some (κ, j) => G.own κ j b

theorem Drop.lookbox {S : Nat → Nat → Prop} {m m' : List (Nat × AV)} (h : Drop S m m') {κ : Nat} {x : AV} (hx : look m' κ = some x) : ∃ y, look m κ = some y := by
  have := h κ; rw [hx] at this; obtain ⟨av, h1, _⟩ := this; exact ⟨av, h1⟩

/-- What the receiving place needs to know. -/
theorem Taken.facts {E : Env} {G : Gh} {m m' : List (Nat × AV)} {a : Act} {w : World} {acs : List AC} {vals : List Value} {S : Nat → Nat → Prop} {src : Nat → Option (Nat × Nat)}
    (h : RelG E G ⟨m⟩ a w) (t : Taken G w m m' acs vals S src) :
    RelG E { G with own := fun κ i b => G.own κ i b ∧ ¬ S κ i } ⟨m'⟩ a w ∧
    (∀ i ac, acs[i]? = some ac → ACR G.F G.bm (ownOf G src acs.length i) w ac (vals.getD i undef)) ∧
    (∀ i ac, acs[i]? = some ac → ac.cap = true → ∀ b, spareB (vals.getD i undef) = some b →
      ((¬ E.keep b ∧ (E.w0.heap.size ≤ b ∨ E.cb b)) ∧ ∀ k x, look m (3 * k + 1) = some x → G.bm k ≠ b) ∧
      (∀ κ av', look m' κ = some av' → av'.on → ∀ i' ac', av'.acs[i']? = some ac' → ac'.cap = true → spareB (G.val κ i') ≠ some b) ∧
      (∀ i' ac', acs[i']? = some ac' → ac'.cap = true → spareB (vals.getD i' undef) = some b → i = i')) ∧
    (∀ i b, ownOf G src acs.length i b → (E.w0.heap.size ≤ b ∨ E.ob b) ∧ b < w.heap.size ∧ (∀ κ i', ¬ (G.own κ i' b ∧ ¬ S κ i')) ∧ ∀ i', ownOf G src acs.length i' b → i = i') := by
  refine ⟨h.drop S t.drop, fun i ac hi => ?_, fun i ac hi hc b hb => ?_, fun i b hb => ?_⟩
  · have hlt : i < acs.length := (List.getElem?_eq_some_iff.1 hi).1
    have := t.cell i ac hi
    cases hs : src i with
    | none =>
      rw [hs] at this
      exact this.1.mono (fun _ _ => id) (fun _ _ _ => rfl) (fun _ _ => rfl) (fun _ => False.elim) (fun _ _ _ _ => ⟨rfl, fun _ => id⟩)
    | some p =>
      obtain ⟨κ, j⟩ := p
      rw [hs] at this
      obtain ⟨_, hv, av, h1, h2, h3⟩ := this
      rw [hv]
      refine (h.cells κ av h1 h2 j ac h3).mono (fun _ _ => id) (fun _ _ _ => rfl) (fun _ _ => rfl) (fun b hb => ?_) (fun _ _ _ _ => ⟨rfl, fun _ => id⟩)
      refine ⟨hlt, ?_⟩
      rw [hs]; exact hb
  · have hlt : i < acs.length := (List.getElem?_eq_some_iff.1 hi).1
    have ht := t.cell i ac hi
    cases hs : src i with
    | none => rw [hs] at ht; rw [ht.2 hc] at hb; simp at hb
    | some p =>
      obtain ⟨κ, j⟩ := p
      rw [hs] at ht
      obtain ⟨hS, hv, av, h1, h2, h3⟩ := ht
      rw [hv] at hb
      refine ⟨h.capk κ av h1 h2 j ac h3 hc b hb, fun κ' av' hk' hon' i' ac' hi' hc' hb' => ?_, fun i' ac' hi' hc' hb' => ?_⟩
      · have hd := t.drop κ'
        rw [hk'] at hd
        obtain ⟨av0, l1, l2, _, _, l5⟩ := hd
        obtain ⟨ac0, l6, l7⟩ := l5 i' ac' hi'
        rcases l7 with ⟨rfl, hn⟩ | rfl
        · obtain ⟨e1, e2⟩ := h.capd κ av κ' av0 h1 h2 l1 (l2.1 hon') j ac i' ac' h3 l6 hc hc' b hb hb'
          subst e1; subst e2; exact hn hS
        · rw [dr_cap] at hc'; simp at hc'
      · have hlt' : i' < acs.length := (List.getElem?_eq_some_iff.1 hi').1
        have ht' := t.cell i' ac' hi'
        cases hs' : src i' with
        | none => rw [hs'] at ht'; rw [ht'.2 hc'] at hb'; simp at hb'
        | some p' =>
          obtain ⟨κ', j'⟩ := p'
          rw [hs'] at ht'
          obtain ⟨hS', hv', av', h1', h2', h3'⟩ := ht'
          rw [hv'] at hb'
          obtain ⟨e1, e2⟩ := h.capd κ av κ' av' h1 h2 h1' h2' j ac j' ac' h3 h3' hc hc' b hb hb'
          subst e1; subst e2
          exact t.inj i i' _ hlt hlt' hs hs'
  · obtain ⟨hlt, hb⟩ := hb
    have hi : acs[i]? = some acs[i] := List.getElem?_eq_getElem hlt
    have ht := t.cell i _ hi
    cases hs : src i with
    | none => rw [hs] at hb; exact hb.elim
    | some p =>
      obtain ⟨κ, j⟩ := p
      rw [hs] at ht hb
      obtain ⟨hS, _⟩ := ht
      refine ⟨(h.own0 _ _ _ hb).1, (h.own0 _ _ _ hb).2, fun κ' i' hh => ?_, fun i' hb' => ?_⟩
      · obtain ⟨e1, e2⟩ := h.ownd _ _ _ _ _ hb hh.1
        subst e1; subst e2; exact hh.2 hS
      · obtain ⟨hlt', hb'⟩ := hb'
        cases hs' : src i' with
        | none => rw [hs'] at hb'; exact hb'.elim
        | some p' =>
          obtain ⟨κ', j'⟩ := p'
          rw [hs'] at hb'
          obtain ⟨e1, e2⟩ := h.ownd _ _ _ _ _ hb hb'
          subst e1; subst e2
          exact t.inj i i' _ hlt hlt' hs hs'

/-- The cells of a value of this shape. -/
def VOf (v : V) (vals : List Value) (u : Value) : Prop :=
  match v with
  | .one _ => u = vals.getD 0 undef
  | .agg _ => u = .agg vals.toArray

theorem VOf.sh {v : V} {vals : List Value} {u : Value} (h : VOf v vals u) (hl : vals.length = v.acs.length) : VSh (fun i => vals.getD i undef) 0 v u := by
  cases v with
  | one c => exact h
  | agg cs =>
    simp only [VOf] at h
    simp only [VSh, h, Value.agg.injEq]
    congr 1
    simp only [V.acs] at hl
    apply List.ext_getElem?
    intro i
    by_cases hi : i < vals.length
    · rw [hl] at hi; simp [hi, hl, List.getD]
    · rw [hl] at hi; simp [hi, hl]
theorem VOf.of {G : Gh} {w : World} {v : V} {u : Value} {val : Nat → Value} (h : VSh val 0 v u) : VOf v ((List.range' 0 v.acs.length).map val) u := by
  cases v with
  | one c => simp only [VSh] at h; simp [VOf, V.acs, h]
  | agg cs => exact h

/-- A slot takes what is on its way. -/
theorem RelG.place {E : Env} {G : Gh} {m m' : List (Nat × AV)} {a : Act} {w : World} (h : RelG E G ⟨m⟩ a w) (d : Nat) (hd : d < E.nt) (v : V) (u : Value) {vals : List Value} {S : Nat → Nat → Prop} {src : Nat → Option (Nat × Nat)}
    (t : Taken G w m m' v.acs vals S src) (hu : VOf v vals u) : Rel E ⟨put m' (3 * d) (.val v)⟩ (a.put (some d) u) w := by
  obtain ⟨h1, h2, h3, h4⟩ := t.facts h
  refine ⟨_, h1.slot d hd (.val v) u (fun i => vals.getD i undef) (ownOf G src v.acs.length) (fun _ => hu.sh t.len) (fun _ i ac hi => h2 i ac hi) (fun _ i ac hi hc b hb => ?_) (fun i b hb => ?_)⟩
  · obtain ⟨⟨r1, r2⟩, r3, r4⟩ := h3 i ac hi hc b hb
    refine ⟨⟨r1, fun k x hx => ?_⟩, fun κ av' _ hk hon i' ac' hi' hc' => r3 κ av' hk hon i' ac' hi' hc', r4⟩
    obtain ⟨y, hy⟩ := t.drop.lookbox hx
    exact r2 k y hy
  · obtain ⟨r1, r2, r3, r4⟩ := h4 i b hb
    exact ⟨r1, r2, fun κ i' _ => r3 κ i', r4⟩

/-- Copies: nothing is left behind. -/
theorem Taken.copy {G : Gh} {w : World} {m : List (Nat × AV)} {v : V} {u : Value} {val : Nat → Value} {own : Nat → Nat → Prop} (hv : VOK G w v u val own) :
    Taken G w m m v.dr.acs ((List.range' 0 v.dr.acs.length).map val) (fun _ _ => False) (fun _ => none) := by
  refine ⟨Drop.refl m, by simp, fun i ac hi => ?_, fun i i' p _ _ h => by simp at h⟩
  have hlt : i < v.dr.acs.length := (List.getElem?_eq_some_iff.1 hi).1
  have e : ((List.range' 0 v.dr.acs.length).map val).getD i undef = val i := by simp [List.getD, hlt]
  rw [V.dr_acs, List.getElem?_map] at hi
  obtain ⟨ac', h1, rfl⟩ := Option.map_eq_some_iff.1 hi
  refine ⟨?_, fun hc => by rw [dr_cap] at hc; simp at hc⟩
  rw [e]
  exact dr_acr (hv.cells i ac' h1)

/-- An operand on its way: with its rights (tk), or a copy. -/
def acq (tk : Bool) (wd : Nat) (m : List (Nat × AV)) (x : Operand) : Option (V × List (Nat × AV)) :=
  match opd wd m x with
  | none => none
  | some v => match tk, x with
    | true, .tmp t => some (v, clrS m t)
    | _, .const _ => some (v, m)
    | _, _ => some (v.dr, m)

theorem acq_taken {E : Env} {G : Gh} {m m' : List (Nat × AV)} {a : Act} {w : World} (h : RelG E G ⟨m⟩ a w) {tk : Bool} {wd : Nat} {x : Operand} {v : V} (hx : acq tk wd m x = some (v, m')) :
    ∃ vals S src, Taken G w m m' v.acs vals S src ∧ VOf v vals (a.eval x) := by
  unfold acq at hx
  cases ho : opd wd m x with
  | none => rw [ho] at hx; simp at hx
  | some v0 =>
    rw [ho] at hx
    obtain ⟨val, own, hv⟩ := opd_ok h ho
    have hcopy : ∃ vals S src, Taken G w m m v0.dr.acs vals S src ∧ VOf v0.dr vals (a.eval x) := by
      refine ⟨_, _, _, Taken.copy hv, VOf.of (G := G) (w := w) ((V.dr_sh v0).2 hv.sh)⟩
    cases x with
    | tmp t =>
      cases tk with
      | false =>
        obtain ⟨rfl, rfl⟩ : v0.dr = v ∧ m = m' := by simpa using hx
        exact hcopy
      | true =>
        obtain ⟨rfl, rfl⟩ : v0 = v ∧ clrS m t = m' := by simpa using hx
        have hlk : look m (3 * t) = some (.val v0) := by
          simp only [opd] at ho
          split at ho
          · rename_i v' hl; rw [hl]; simpa using ho
          · simp at ho
        refine ⟨(List.range' 0 v0.acs.length).map (G.val (3 * t)), fun κ _ => κ = 3 * t, fun i => some (3 * t, i), ⟨drop_clrS m t, by simp, fun i ac hi => ?_, fun i i' p _ _ e1 e2 => ?_⟩, VOf.of (G := G) (w := w) (h.slots t _ hlk trivial)⟩
        · have hlt : i < v0.acs.length := (List.getElem?_eq_some_iff.1 hi).1
          exact ⟨rfl, by simp [List.getD, hlt], _, hlk, trivial, hi⟩
        · simp only [Option.some.injEq] at e1 e2
          rw [← e1] at e2; simpa using e2.symm
    | const c =>
      obtain ⟨rfl, rfl⟩ : v0 = v ∧ m = m' := by cases tk <;> simpa using hx
      simp only [opd] at ho
      split at ho
      · rename_i hc
        obtain rfl : _ = v0 := by simpa using ho
        have hk := cV_ok G w wd c hc
        refine ⟨(List.range' 0 (cV wd c).acs.length).map fun _ => c, fun _ _ => False, fun _ => none, ⟨Drop.refl m, by simp, fun i ac hi => ?_, fun i i' p _ _ e => by simp at e⟩, VOf.of (G := G) (w := w) hk.sh⟩
        have hlt : i < (cV wd c).acs.length := (List.getElem?_eq_some_iff.1 hi).1
        have e : ((List.range' 0 (cV wd c).acs.length).map fun _ => c).getD i undef = c := by simp [List.getD, hlt]
        refine ⟨by rw [e]; exact hk.cells i ac hi, fun hcap => ?_⟩
        rw [e]
        cases i with
        | zero =>
          obtain rfl : _ = ac := by simpa [V.acs, cV] using hi
          exact (cC_acr G.F G.bm w wd c hc).2 hcap
        | succ i => simp [V.acs, cV] at hi
      · simp at ho
    | func f =>
      obtain ⟨rfl, rfl⟩ : v0.dr = v ∧ m = m' := by cases tk <;> simpa using hx
      exact hcopy
    | global g => simp [opd] at ho

def OpOK (E : Env) (m : List (Nat × AV)) (o : Oper) (m' : List (Nat × AV)) : Prop :=
  ∀ a w Q, Rel E ⟨m⟩ a w → o.wp E.P a w (Rel E ⟨m'⟩) Q

/-- An operation that changes no memory. -/
def OpSt (E : Env) (m : List (Nat × AV)) (o : Oper) (m' : List (Nat × AV)) : Prop :=
  ∀ a w, Rel E ⟨m⟩ a w → ∃ u, (execOp a.eval o).run E.P w = .ok (.value u) w ∧ Rel E ⟨m'⟩ (a.put o.dst u) w
theorem OpSt.ok {E : Env} {m m' : List (Nat × AV)} {o : Oper} (h : OpSt E m o m') : OpOK E m o m' := by
  intro a w Q hr
  obtain ⟨u, h1, h2⟩ := h a w hr
  unfold Oper.wp; rw [h1]; exact h2

theorem wp_of_run {P : Program} {o : Oper} {a : Act} {w w' : World} {v : Value} {K : Act → World → Prop} {Q : Exit → Act → World → Prop}
    (h : (execOp a.eval o).run P w = .ok (.value v) w') (hk : K (a.put o.dst v) w') : o.wp P a w K Q := by
  unfold Oper.wp; rw [h]; exact hk

theorem op_move {E : Env} {m m' : List (Nat × AV)} {o : Oper} {x : Operand} {tk : Bool} {wd d : Nat} {v : V} (ho : o.op = .move x ∨ o.op = .assign x) (hd : o.dst = some d) (hlt : d < E.nt)
    (hx : acq tk wd m x = some (v, m')) : OpSt E m o (put m' (3 * d) (.val v)) := by
  intro a w ⟨G, h⟩
  obtain ⟨vals, S, src, ht, hu⟩ := acq_taken h hx
  refine ⟨a.eval x, ?_, ?_⟩
  · rcases ho with ho | ho <;> simp [execOp, ho, pure]
  · rw [hd]; exact h.place d hlt v _ ht hu

theorem Taken.raw {G : Gh} {w : World} {m : List (Nat × AV)} {u : Value} (hu : u.oneCell' = true) :
    Taken G w m m (V.one (.v (.raw u) false true)).acs [u] (fun _ _ => False) (fun _ => none) := by
  refine ⟨Drop.refl m, rfl, fun i ac hi => ?_, fun i i' p _ _ h => by simp at h⟩
  cases i with
  | zero =>
    obtain rfl : _ = ac := by simpa [V.acs] using hi
    exact ⟨⟨[], by simp [Rd, hu], fun _ => by simp, fun h => by simp at h⟩, fun hc => by simp [AC.cap] at hc⟩
  | succ i => simp [V.acs] at hi

/-- Whatever yields one plain value, whatever the memory. -/
theorem op_pure {E : Env} {m : List (Nat × AV)} {o : Oper} {d : Nat} {u : Value} (hd : o.dst = some d) (hlt : d < E.nt) (hu : u.oneCell' = true)
    (hrun : ∀ G a w, RelG E G ⟨m⟩ a w → (execOp a.eval o).run E.P w = .ok (.value u) w) : OpSt E m o (put m (3 * d) (.val (.one (.v (.raw u) false true)))) := by
  intro a w ⟨G, h⟩
  refine ⟨u, hrun G a w h, ?_⟩
  rw [hd]
  exact h.place d hlt _ u (Taken.raw hu) rfl
end Go.RF
