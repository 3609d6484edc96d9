/- A logic over the walk in which memory is hidden, part 14: calls. -/
import Derived.Test.YtmahppdampmpfaaRF13
set_option linter.unusedVariables false
namespace Go.RF
open Go.RowKit (Below)

inductive IN where
  | val (v : V)
  | ptr (cs : List AC)

/-- What a function finds in its parameters' slots. -/
def inMap : Nat → List IN → List (Nat × AV)
  | _, [] => []
  | p, .val v :: r => (3 * p, .val v) :: inMap (p + 1) r
  | p, .ptr cs :: r => (3 * p, .val (.one (.bp p 0))) :: (3 * p + 1, .val (.agg cs)) :: inMap (p + 1) r
def avOf : List V → AV
  | [v] => .val v
  | vs => .tup vs
def outMap (outs : List V) (posts : List (Nat × List AC)) : List (Nat × AV) :=
  (0, avOf outs) :: posts.map fun p => (3 * p.1 + 1, .val (.agg p.2))

/-- The call of function f, with such arguments, returns such results; boxes that were handed in by pointer hold such contents behind it. -/
def PC (P : Program) (f : FuncId) (ins : List IN) (outs : List V) (posts : List (Nat × List AC)) : Prop :=
  ∀ (E : Env) (G : Gh) (a : Act) (w : World), E.P = P → E.w0 = w → E.nt = ins.length → E.F0 = G.F → E.np = 0 → RelG E G ⟨inMap 0 ins⟩ a w →
    Calls P f a.tmps w fun e w' => ∃ v G', e = .returned v ∧ RelG { E with nt := 1 } G' ⟨outMap outs posts⟩ { tmps := #[v], defers := [] } w' ∧ ∀ p ∈ posts, G'.bm p.1 = G.bm p.1

theorem avOf_acs (vs : List V) : (avOf vs).acs = vs.flatMap V.acs := by
  match vs with
  | [] => rfl
  | [v] => simp [avOf, AV.acs]
  | _ :: _ :: _ => rfl
theorem avOf_on (vs : List V) : (avOf vs).on := by
  match vs with
  | [] => trivial
  | [v] => trivial
  | _ :: _ :: _ => trivial

/-- One more value is held aside. -/
theorem RelG.virt {E : Env} {G : Gh} {m m' : List (Nat × AV)} {a : Act} {w : World} (h : RelG E G ⟨m⟩ a w) (j : Nat) (v : V) (u : Value) {vals : List Value} {S : Nat → Nat → Prop} {src : Nat → Option (Nat × Nat)}
    (t : Taken G w m m' v.acs vals S src) (hu : VOf v vals u) :
    ∃ G', RelG E G' ⟨put m' (3 * j + 2) (.val v)⟩ a w ∧ G'.F = G.F ∧ G'.bm = G.bm ∧ (∀ κ, κ ≠ 3 * j + 2 → G'.val κ = G.val κ) ∧ VSh (G'.val (3 * j + 2)) 0 v u := by
  obtain ⟨h1, h2, h3, h4⟩ := t.facts h
  refine ⟨_, h1.key (a' := a) (3 * j + 2) (fun k => by omega) (.val v) (fun i => vals.getD i undef) (ownOf G src v.acs.length) h1.nt h1.dfs (fun _ _ => rfl) (fun s hs => by omega) (fun _ i ac hi => h2 i ac hi)
    (fun _ i ac hi hc b hb => ?_) (fun i b hb => ?_), rfl, rfl, fun κ hκ => upd_ne _ _ _ _ hκ, ?_⟩
  · obtain ⟨⟨r1, r2⟩, r3, r4⟩ := h3 i ac hi hc b hb
    refine ⟨⟨r1, fun k x hx => ?_⟩, fun κ av' _ hk hon i' ac' hi' hc' => r3 κ av' hk hon i' ac' hi' hc', r4⟩
    obtain ⟨y, hy⟩ := t.drop.lookbox hx
    exact r2 k y hy
  · obtain ⟨r1, r2, r3, r4⟩ := h4 i b hb
    exact ⟨r1, r2, fun κ i' _ => r3 κ i', r4⟩
  · simp only [upd_same]; exact hu.sh t.len

/-- Whether rights are wanted. -/
def wantR (v : V) : Bool := v.acs.any fun c => c.cap || c.ow
theorem wantR_one (c : AC) : wantR (.one c) = (c.cap || c.ow) := by simp [wantR, V.acs]
theorem wantR_nil : wantR (.agg []) = false := rfl
theorem wantR_cons (c : AC) (cs : List AC) : wantR (.agg (c :: cs)) = (c.cap || c.ow || wantR (.agg cs)) := by simp [wantR, V.acs]
def acqA : List (Nat × AV) → List (Operand × V) → Option (List V × List (Nat × AV))
  | m, [] => some ([], m)
  | m, (x, vin) :: r => match acq (wantR vin) (wdAt vin.acs 0) m x with
    | none => none
    | some (v, m') => match acqA m' r with
      | none => none
      | some (vs, m'') => some (v :: vs, m'')

def Agr (mv m : List (Nat × AV)) : Prop := ∀ κ, κ % 3 ≠ 2 → look mv κ = look m κ

theorem acq_agr {mv m m' : List (Nat × AV)} (h : Agr mv m) {tk : Bool} {wd : Nat} {x : Operand} {v : V} (hx : acq tk wd m x = some (v, m')) :
    ∃ mv', acq tk wd mv x = some (v, mv') ∧ Agr mv' m' ∧ ∀ κ, κ % 3 = 2 → look mv' κ = look mv κ := by
  have hop : opd wd mv x = opd wd m x := by
    cases x with
    | tmp t => simp only [opd]; rw [h (3 * t) (by omega)]
    | _ => rfl
  unfold acq at hx ⊢
  rw [hop]
  cases ho : opd wd m x with
  | none => rw [ho] at hx; simp at hx
  | some v0 =>
    rw [ho] at hx
    cases x with
    | tmp t =>
      cases tk with
      | false =>
        obtain ⟨rfl, rfl⟩ : v0.dr = v ∧ m = m' := by simpa using hx
        exact ⟨mv, rfl, h, fun _ _ => rfl⟩
      | true =>
        obtain ⟨rfl, rfl⟩ : v0 = v ∧ clrS m t = m' := by simpa using hx
        refine ⟨clrS mv t, rfl, fun κ hκ => ?_, fun κ hκ => ?_⟩
        · unfold clrS
          rw [h (3 * t) (by omega)]
          cases look m (3 * t) with
          | none => exact h κ hκ
          | some av => simp only [look_put]; split; rfl; exact h κ hκ
        · unfold clrS
          cases look mv (3 * t) with
          | none => rfl
          | some av => simp only [look_put]; rw [if_neg (by omega)]
    | const c =>
      obtain ⟨rfl, rfl⟩ : v0 = v ∧ m = m' := by cases tk <;> simpa using hx
      exact ⟨mv, by cases tk <;> rfl, h, fun _ _ => rfl⟩
    | func f =>
      obtain ⟨rfl, rfl⟩ : v0.dr = v ∧ m = m' := by cases tk <;> simpa using hx
      exact ⟨mv, by cases tk <;> rfl, h, fun _ _ => rfl⟩
    | global g => simp [opd] at ho

/-- All arguments held aside, from key 3 J + 2 on. -/
theorem acqA_held {E : Env} {a : Act} {w : World} : ∀ (xs : List (Operand × V)) (J : Nat) {G : Gh} {mv m m' : List (Nat × AV)} {vs : List V}, RelG E G ⟨mv⟩ a w → Agr mv m → acqA m xs = some (vs, m') →
    ∃ G' mv', RelG E G' ⟨mv'⟩ a w ∧ Agr mv' m' ∧ G'.F = G.F ∧ G'.bm = G.bm ∧ vs.length = xs.length ∧ (∀ κ, κ % 3 = 2 → κ < 3 * J + 2 → look mv' κ = look mv κ ∧ G'.val κ = G.val κ) ∧
      ∀ j v, vs[j]? = some v → look mv' (3 * (J + j) + 2) = some (.val v) ∧ ∀ x, xs[j]? = some x → VSh (G'.val (3 * (J + j) + 2)) 0 v (a.eval x.1)
  | [], J, G, mv, m, m', vs, h, hg, hx => by
    obtain ⟨rfl, rfl⟩ : [] = vs ∧ m = m' := by simpa [acqA] using hx
    exact ⟨G, mv, h, hg, rfl, rfl, rfl, fun _ _ _ => ⟨rfl, rfl⟩, fun j v hj => by simp at hj⟩
  | (x, vin) :: r, J, G, mv, m, m', vs, h, hg, hx => by
    simp only [acqA] at hx
    split at hx
    · simp at hx
    · rename_i v m1 h1
      split at hx
      · simp at hx
      · rename_i vs' m2 h2
        obtain ⟨rfl, rfl⟩ : v :: vs' = vs ∧ m2 = m' := by simpa using hx
        obtain ⟨mv1, k1, k2, k3⟩ := acq_agr hg h1
        obtain ⟨vals, S, src, t, hu⟩ := acq_taken h k1
        obtain ⟨G1, h3, e1, e2, e3, e4⟩ := h.virt J v _ t hu
        have hg2 : Agr (put mv1 (3 * J + 2) (.val v)) m1 := fun κ hκ => by
          rw [look_put, if_neg (by omega)]; exact k2 κ hκ
        obtain ⟨G2, mv2, q1, q2, q3, q4, q5, q6, q7⟩ := acqA_held r (J + 1) h3 hg2 h2
        refine ⟨G2, mv2, q1, q2, q3.trans e1, q4.trans e2, by simp [q5], fun κ hκ hlt => ?_, fun j v' hj => ?_⟩
        · obtain ⟨p1, p2⟩ := q6 κ hκ (by omega)
          rw [look_put, if_neg (by omega)] at p1
          exact ⟨p1.trans (k3 κ hκ), p2.trans (e3 κ (by omega))⟩
        · cases j with
          | zero =>
            obtain rfl : v = v' := by simpa using hj
            obtain ⟨p1, p2⟩ := q6 (3 * J + 2) (by omega) (by omega)
            rw [look_put, if_pos rfl] at p1
            refine ⟨by simpa using p1, fun y hy => ?_⟩
            obtain rfl : (x, vin) = y := by simpa using hy
            simp only [Nat.add_zero]
            rw [p2]; exact e4
          | succ j =>
            obtain ⟨p1, p2⟩ := q7 j v' (by simpa using hj)
            rw [show 3 * (J + 1 + j) + 2 = 3 * (J + (j + 1)) + 2 by omega] at p1 p2
            exact ⟨p1, fun y hy => p2 y (by simpa using hy)⟩

theorem look_bound {α : Type} : ∀ (m : List (Nat × α)), ∃ J, ∀ κ, J ≤ κ → look m κ = none
  | [] => ⟨0, fun _ _ => rfl⟩
  | (k, x) :: r => by
    obtain ⟨J, hJ⟩ := look_bound r
    refine ⟨max J (k + 1), fun κ hκ => ?_⟩
    simp only [look]
    rw [if_neg (by omega)]
    exact hJ κ (by omega)

/-- A callee has run. -/
theorem RelG.after {E : Env} {G : Gh} {st : St} {a : Act} {w w' : World} (h : RelG E G st a w) (cb : Nat → Prop) (F' : Fz)
    (hsz : w.heap.size ≤ w'.heap.size) (hos : w'.os = w.os) (htp : w'.tape = w.tape) (hou : w'.output = w.output)
    (hsame : ∀ b, b < w.heap.size → ¬ cb b → w'.heap[b]? = w.heap[b]?) (h1 : ∀ b o, G.F b o → F' b o) (h2 : ∀ b o, F' b o → G.F b o ∨ w.heap.size ≤ b ∨ cb b) (h2' : ∀ b o, F' b o → b < w'.heap.size)
    (hfc : ∀ b o, G.F b o → w'.cell? ⟨b, o, none⟩ = w.cell? ⟨b, o, none⟩)
    (hcb : ∀ b, cb b → b < w.heap.size ∧ (¬ E.keep b ∧ (E.w0.heap.size ≤ b ∨ E.cb b)) ∧ (∀ k x, look st.m (3 * k + 1) = some x → G.bm k ≠ b) ∧
      ∀ κ av, look st.m κ = some av → av.on → ∀ i ac, av.acs[i]? = some ac → ac.cap = true → spareB (G.val κ i) ≠ some b) : RelG E { G with F := F' } st a w' := by
  exact {
    nt := h.nt
    dfs := h.dfs
    slots := h.slots
    boxes := fun k av hs => by
      obtain ⟨cs, t, rfl, r1, r2, r3⟩ := h.boxes k av hs
      have hlt : G.bm k < w.heap.size := (Array.getElem?_eq_some_iff.1 r1).1
      have hn : ¬ cb (G.bm k) := fun hc => (hcb _ hc).2.2.1 k _ hs rfl
      refine ⟨cs, t, rfl, (hsame _ hlt hn).trans r1, fun o hf => ?_, r3⟩
      rcases h2 _ _ hf with hf | hf | hf
      · exact r2 o hf
      · exact absurd hlt (Nat.not_lt.2 hf)
      · exact hn hf
    cells := fun κ av hs hon i ac hi => (h.cells κ av hs hon i ac hi).mono h1 hfc (fun _ _ => rfl) (fun _ => id) (fun hc b hsb hlt => by
      have hn : ¬ cb b := fun hcc => (hcb _ hcc).2.2.2 κ av hs hon i ac hi hc hsb
      refine ⟨hsame b hlt hn, fun o hf => ?_⟩
      rcases h2 _ _ hf with hf | hf | hf
      · exact hf
      · exact absurd hlt (Nat.not_lt.2 hf)
      · exact absurd hf hn)
    inj := h.inj
    capk := h.capk
    capd := h.capd
    fsz := h2'
    f0 := fun b o hf => h1 _ _ (h.f0 b o hf)
    f1 := fun b o hf => by
      rcases h2 _ _ hf with hf | hf | hf
      · exact h.f1 _ _ hf
      · exact .inr (.inl (Nat.le_trans h.size hf))
      · exact .inr (hcb b hf).2.1.2
    fc := fun b o hf => (hfc b o (h.f0 b o hf)).trans (h.fc b o hf)
    kept := fun b hk => (hsame b (Nat.lt_of_lt_of_le (E.hk b hk) h.size) (fun hc => (hcb b hc).2.1.1 hk)).trans (h.kept b hk)
    ownd := h.ownd
    own0 := fun κ i b hb' => ⟨(h.own0 κ i b hb').1, Nat.lt_of_lt_of_le (h.own0 κ i b hb').2 hsz⟩
    size := Nat.le_trans h.size hsz
    os := hos.trans h.os
    tape := htp.trans h.tape
    out := hou.trans h.out
    pbf := h.pbf }

theorem look_inMap_box (ins : List V) : ∀ (p k : Nat), look (inMap p (ins.map .val)) (3 * k + 1) = none := by
  induction ins with
  | nil => intro p k; rfl
  | cons v r ih => intro p k; simp only [List.map_cons, inMap, look]; rw [if_neg (by omega)]; exact ih _ _
theorem look_inMap (ins : List V) : ∀ (p κ : Nat) (av : AV), look (inMap p (ins.map .val)) κ = some av → ∃ j v, κ = 3 * (p + j) ∧ ins[j]? = some v ∧ av = .val v := by
  induction ins with
  | nil => intro p κ av h; simp [inMap, look] at h
  | cons v r ih =>
    intro p κ av h
    simp only [List.map_cons, inMap, look] at h
    split at h
    · exact ⟨0, v, by omega, rfl, by simpa using h.symm⟩
    · obtain ⟨j, v', h1, h2, h3⟩ := ih (p + 1) κ av h
      exact ⟨j + 1, v', by omega, by simpa using h2, h3⟩

theorem Vsle.at_ : ∀ {vs vs' : List V}, Vsle vs vs' → ∀ {j : Nat} {v : V}, vs[j]? = some v → ∃ v', vs'[j]? = some v' ∧ Vle v v'
  | [], [], _, j, v, h => by simp at h
  | v :: vs, v' :: vs', h, 0, x, hx => by
    obtain rfl : v = x := by simpa using hx
    exact ⟨v', rfl, h.1⟩
  | v :: vs, v' :: vs', h, j + 1, x, hx => by
    obtain ⟨y, h1, h2⟩ := Vsle.at_ h.2 (j := j) (v := x) (by simpa using hx)
    exact ⟨y, by simpa using h1, h2⟩
  | [], _ :: _, h, _, _, _ => h.elim
  | _ :: _, [], h, _, _, _ => h.elim
theorem Vsle.length : ∀ {vs vs' : List V}, Vsle vs vs' → vs.length = vs'.length
  | [], [], _ => rfl
  | v :: vs, v' :: vs', h => by simp [Vsle.length h.2]
  | [], _ :: _, h => h.elim
  | _ :: _, [], h => h.elim

theorem acq_low {m m' : List (Nat × AV)} {tk : Bool} {wd : Nat} {x : Operand} {v : V} (hx : acq tk wd m x = some (v, m')) :
    (∀ κ, κ % 3 = 2 → look m' κ = look m κ) ∧ ∀ κ, look m κ = none → look m' κ = none := by
  obtain ⟨mv', h1, h2, h3⟩ := acq_agr (mv := m) (fun _ _ => rfl) hx
  rw [hx] at h1
  obtain rfl : m' = mv' := by simpa using h1
  refine ⟨h3, fun κ hκ => ?_⟩
  have hcl : ∀ t, look (clrS m t) κ = none := by
    intro t
    unfold clrS
    cases hmt : look m (3 * t) with
    | none => exact hκ
    | some av =>
      simp only [look_put]
      split
      · rename_i he; subst he; rw [hκ] at hmt; simp at hmt
      · exact hκ
  unfold acq at hx
  split at hx
  · simp at hx
  · split at hx
    · obtain ⟨_, rfl⟩ : _ = v ∧ _ = m' := by simpa using hx
      exact hcl _
    · obtain ⟨_, rfl⟩ : _ = v ∧ _ = m' := by simpa using hx
      exact hκ
    · obtain ⟨_, rfl⟩ : _ = v ∧ _ = m' := by simpa using hx
      exact hκ
theorem acqA_low : ∀ {xs : List (Operand × V)} {m m' : List (Nat × AV)} {vs : List V}, acqA m xs = some (vs, m') →
    (∀ κ, κ % 3 = 2 → look m' κ = look m κ) ∧ ∀ κ, look m κ = none → look m' κ = none
  | [], m, m', vs, hx => by
    obtain ⟨_, rfl⟩ : [] = vs ∧ m = m' := by simpa [acqA] using hx
    exact ⟨fun _ _ => rfl, fun _ => id⟩
  | (x, vin) :: r, m, m', vs, hx => by
    simp only [acqA] at hx
    split at hx
    · simp at hx
    · rename_i v m1 hq1
      split at hx
      · simp at hx
      · rename_i vs' m2 hq2
        obtain ⟨_, rfl⟩ : v :: vs' = vs ∧ m2 = m' := by simpa using hx
        obtain ⟨k1, k2⟩ := acq_low hq1
        obtain ⟨k3, k4⟩ := acqA_low hq2
        exact ⟨fun κ hκ => (k3 κ hκ).trans (k1 κ hκ), fun κ hκ => k4 κ (k2 κ hκ)⟩

/-- From the arguments held aside to the results. -/
theorem enter_core {E : Env} {G G1 : Gh} {m m' mv : List (Nat × AV)} {a : Act} {w : World} {Q : Exit → Act → World → Prop} {o : Oper} {f : FuncId} {d J : Nat} {ins outs : List V} (us : List Value)
    (hPC : PC E.P f (ins.map .val) outs []) (hd : o.dst = some d) (hlt : d < E.nt) (hnb : ∀ v ∈ outs, ∀ c ∈ v.acs, (dOf c).isSome = true)
    (h : RelG E G ⟨m⟩ a w) (hJ : ∀ κ, J ≤ κ → look m κ = none) (h1 : RelG E G1 ⟨mv⟩ a w) (hg : Agr mv m') (eF : G1.F = G.F) (eB : G1.bm = G.bm) (hlow : ∀ κ, κ % 3 = 2 → κ < 3 * J + 2 → look mv κ = look m κ ∧ G1.val κ = G.val κ)
    (hlen : us.length = ins.length)
    (hin : ∀ j v, ins[j]? = some v → ∃ v', look mv (3 * (J + j) + 2) = some (.val v') ∧ Vle v v' ∧ VSh (G1.val (3 * (J + j) + 2)) 0 v' (us.getD j undef))
    (hlo1 : ∀ κ, κ % 3 = 2 → look m' κ = look m κ) (hlo2 : ∀ κ, look m κ = none → look m' κ = none)
    (hexec : (execOp a.eval o).run E.P w = .ok (.enter f us.toArray) w) : o.wp E.P a w (Rel E ⟨put m' (3 * d) (avOf outs)⟩) Q := by
  let vk : Nat → Nat := fun κ => κ + 3 * J + 2
  let CB : Nat → Prop := fun b => ∃ j v i ac, ins[j]? = some v ∧ v.acs[i]? = some ac ∧ ac.cap = true ∧ spareB (G1.val (3 * (J + j) + 2) i) = some b
  let OB : Nat → Prop := fun b => ∃ j i, G1.own (3 * (J + j) + 2) i b
  let E2 : Env := { P := E.P, nt := ins.length, w0 := w, F0 := G.F, keep := fun b => b < w.heap.size ∧ ¬ CB b, cb := CB, ob := OB, hk := fun b hb => hb.1, np := 0, pb := fun _ => 0 }
  let G2 : Gh := { F := G.F, bm := G.bm, own := fun κ i b => κ % 3 = 0 ∧ G1.own (κ + 3 * J + 2) i b, val := fun κ i => G1.val (κ + 3 * J + 2) i }
  let a2 : Act := { tmps := us.toArray, defers := [] }
  have hlk : ∀ {κ av}, look (inMap 0 (ins.map IN.val)) κ = some av → ∃ j v v', κ = 3 * j ∧ ins[j]? = some v ∧ av = .val v ∧ look mv (3 * (J + j) + 2) = some (.val v') ∧ Vle v v' ∧
      VSh (G1.val (3 * (J + j) + 2)) 0 v' (us.getD j undef) := by
    intro κ av hκ
    obtain ⟨j, v, e1, e2, e3⟩ := look_inMap ins 0 κ av hκ
    obtain ⟨v', k1, k2, k3⟩ := hin j v e2
    exact ⟨j, v, v', by omega, e2, e3, k1, k2, k3⟩
  have hkk : ∀ j, 3 * j + 3 * J + 2 = 3 * (J + j) + 2 := fun j => by omega
  have hcapG : ∀ (κ : Nat) (av : AV), look (inMap 0 (ins.map IN.val)) κ = some av → ∀ (i : Nat) (ac : AC), av.acs[i]? = some ac → ac.cap = true → ∃ (av' : AV) (ac' : AC), look mv (κ + 3 * J + 2) = some av' ∧ av'.on ∧ av'.acs[i]? = some ac' ∧ ac'.cap = true := by
    intro κ av hκ i ac hi hc
    obtain ⟨j, v, v', rfl, e2, rfl, k1, k2, k3⟩ := hlk hκ
    obtain ⟨ac', h6, h7⟩ := k2.acs.at_ hi
    exact ⟨.val v', ac', by rw [hkk]; exact k1, trivial, h6, h7.cap hc⟩
  have hrel : RelG E2 G2 ⟨inMap 0 (ins.map IN.val)⟩ a2 w := {
    nt := by simp [a2, E2, hlen]
    dfs := rfl
    slots := fun s av hs hon => by
      obtain ⟨j, v, v', e1, e2, rfl, k1, k2, k3⟩ := hlk hs
      obtain rfl : s = j := by omega
      have hjl : s < us.length := by rw [hlen]; exact (List.getElem?_eq_some_iff.1 e2).1
      have e4 : a2.tmps.getD s undef = us.getD s undef := by simp [a2, Array.getD, List.getD, hjl]
      rw [e4]
      simp only [AVSh, G2, hkk]
      exact k2.sh k3
    boxes := fun k av hs => by simp [look_inMap_box] at hs
    cells := fun κ av hs hon i ac hi => by
      obtain ⟨j, v, v', rfl, e2, rfl, k1, k2, k3⟩ := hlk hs
      obtain ⟨ac', h6, h7⟩ := k2.acs.at_ hi
      have h8 := h1.cells (3 * (J + j) + 2) _ k1 trivial i ac' h6
      rw [eF, eB] at h8
      simp only [G2, hkk]
      exact h7.acr h8 (fun _ b hb => ⟨by omega, hb⟩)
    inj := fun k k' x x' hk => by simp [look_inMap_box] at hk
    capk := fun κ av hs hon i ac hi hc b hb => by
      obtain ⟨j, v, v', rfl, e2, rfl, k1, k2, k3⟩ := hlk hs
      have hcb : CB b := ⟨j, v, i, ac, e2, hi, hc, by simpa [G2, hkk] using hb⟩
      exact ⟨⟨fun hk => hk.2 hcb, .inr hcb⟩, fun k x hx => by simp [look_inMap_box] at hx⟩
    capd := fun κ av κ' av' hs hon hs' hon' i ac i' ac' hi hi' hc hc' b hb hb' => by
      obtain ⟨x, c, q1, q2, q3, q4⟩ := hcapG κ av hs i ac hi hc
      obtain ⟨x', c', q1', q2', q3', q4'⟩ := hcapG κ' av' hs' i' ac' hi' hc'
      obtain ⟨e1, e2⟩ := h1.capd _ _ _ _ q1 q2 q1' q2' i c i' c' q3 q3' q4 q4' b hb hb'
      exact ⟨by omega, e2⟩
    fsz := h.fsz
    f0 := fun _ _ => id
    f1 := fun _ _ => .inl
    fc := fun _ _ _ => rfl
    kept := fun _ _ => rfl
    ownd := fun κ i κ' i' b hb hb' => by
      obtain ⟨e1, e2⟩ := h1.ownd _ _ _ _ _ hb.2 hb'.2
      exact ⟨by omega, e2⟩
    own0 := fun κ i b hb => by
      refine ⟨.inr ⟨κ / 3, i, ?_⟩, (h1.own0 _ _ _ hb.2).2⟩
      have : 3 * (J + κ / 3) + 2 = κ + 3 * J + 2 := by have := hb.1; omega
      rw [this]; exact hb.2
    size := Nat.le_refl _
    os := rfl
    tape := rfl
    out := rfl
    pbf := fun k hk => absurd hk (Nat.not_lt_zero k) }
  have hcall := hPC E2 G2 a2 w rfl rfl (by simp [E2]) rfl rfl hrel
  unfold Oper.wp
  rw [hexec]
  simp only [Oper.upon]
  refine hcall.mono fun e w' hR => ?_
  obtain ⟨v, G', rfl, h2, _⟩ := hR
  simp only []
  rw [hd]
  -- back in the caller
  have hmvk : ∀ κ av, look m' κ = some av → look mv κ = some av ∧ (κ % 3 = 2 → κ < 3 * J + 2) := by
    intro κ av hκ
    have hlt : κ < J := by
      rcases Nat.lt_or_ge κ J with h | h
      · exact h
      · rw [hlo2 κ (hJ κ h)] at hκ; simp at hκ
    refine ⟨?_, fun _ => by omega⟩
    by_cases hk2 : κ % 3 = 2
    · rw [(hlow κ hk2 (by omega)).1, ← hlo1 κ hk2]; exact hκ
    · rw [hg κ hk2]; exact hκ
  have h3 := h1.weaken (st' := ⟨m'⟩) (fun κ av hκ => ⟨av, (hmvk κ av hκ).1, AVle.refl av⟩) (fun κ i b => G1.own κ i b ∧ ¬ (κ % 3 = 2 ∧ 3 * J + 2 ≤ κ)) (fun _ _ _ hb => hb.1)
    (fun κ av i ac hκ _ _ b hb => ⟨hb, fun hn => by have := (hmvk κ av hκ).2 hn.1; omega⟩)
  have hcbf : ∀ b, CB b → b < w.heap.size ∧ (¬ E.keep b ∧ (E.w0.heap.size ≤ b ∨ E.cb b)) ∧ (∀ k x, look m' (3 * k + 1) = some x → G1.bm k ≠ b) ∧
      ∀ κ av, look m' κ = some av → av.on → ∀ (i : Nat) (ac : AC), av.acs[i]? = some ac → ac.cap = true → spareB (G1.val κ i) ≠ some b := by
    rintro b ⟨j, v, i, ac, hj, hi, hc, hs⟩
    obtain ⟨v', k1, k2, _⟩ := hin j v hj
    obtain ⟨ac', k3, k4⟩ := k2.acs.at_ hi
    obtain ⟨q1, q2⟩ := h1.capk _ _ k1 trivial i ac' k3 (k4.cap hc) b hs
    obtain ⟨wd, hcp⟩ := (h1.cells _ _ k1 trivial i ac' k3).sz (k4.cap hc)
    refine ⟨hcp.block_lt hs, q1, fun k x hx => q2 k x (hmvk _ _ hx).1, fun κ av hκ hon i' ac2 hi' hc' hs' => ?_⟩
    obtain ⟨e1, _⟩ := h1.capd _ _ _ _ k1 trivial (hmvk κ av hκ).1 hon i ac' i' ac2 k3 hi' (k4.cap hc) hc' b hs hs'
    have := (hmvk κ av hκ).2 (by omega)
    omega
  have h4 := h3.after CB G'.F (w' := w') h2.size h2.os h2.tape h2.out (fun b hlt hn => h2.kept b ⟨hlt, hn⟩) (fun b o hf => h2.f0 b o (by simpa [E2, eF] using hf)) (fun b o hf => by
    rcases h2.f1 b o hf with hf | hf | hf
    · exact .inl (by simpa [eF] using hf)
    · exact .inr (.inl hf)
    · exact .inr (.inr hf)) h2.fsz (fun b o hf => h2.fc b o (by simpa [E2, eF] using hf)) hcbf
  have hl0 : look (outMap outs []) 0 = some (avOf outs) := by simp [outMap, look]
  have hw0 : E.w0.heap.size ≤ w.heap.size := h.size
  refine ⟨_, h4.key (a' := a.put (some d) v) (3 * d) (fun k => by omega) (avOf outs) (G'.val 0) (G'.own 0) (by simpa [Act.put] using h4.nt) h4.dfs (fun s hne => ?_) (fun s he hon => ?_) (fun hon i ac hi => ?_) (fun hon i ac hi hc b hs => ?_) (fun i b hb => ?_)⟩
  · have : d ≠ s := fun he => hne (by rw [he])
    simp [Act.put, Array.getElem?_setIfInBounds_ne this]
  · obtain rfl : s = d := by omega
    have hlt' : s < a.tmps.size := by rw [h.nt]; exact hlt
    have := h2.slots 0 (avOf outs) hl0 hon
    simpa [Act.put, hlt'] using this
  · have hr := h2.cells 0 (avOf outs) hl0 hon i ac hi
    refine hr.mono (fun _ _ => id) (fun _ _ _ => rfl) (fun k he => ?_) (fun _ => id) (fun _ _ _ _ => ⟨rfl, fun _ => id⟩)
    rw [avOf_acs] at hi
    obtain ⟨v0, hv0, hmem⟩ := List.mem_flatMap.1 (List.mem_of_getElem? hi)
    have := hnb v0 hv0 _ hmem
    cases ac <;> simp [dOf, AC.ref] at this he
  · obtain ⟨q1, _⟩ := h2.capk 0 (avOf outs) hl0 hon i ac hi hc b hs
    have hrest : ((¬ E.keep b ∧ (E.w0.heap.size ≤ b ∨ E.cb b)) ∧ ∀ k x, look m' (3 * k + 1) = some x → G1.bm k ≠ b) ∧
        (∀ κ av', κ ≠ 3 * d → look m' κ = some av' → av'.on → ∀ (i' : Nat) (ac' : AC), av'.acs[i']? = some ac' → ac'.cap = true → spareB (G1.val κ i') ≠ some b) := by
      rcases q1.2 with hb | hb
      · have hb' : w.heap.size ≤ b := hb
        refine ⟨⟨⟨fun hk => by have := E.hk b hk; omega, .inl (by omega)⟩, fun k x hx hbm => ?_⟩, fun κ av' _ hk hon' i' ac' hi' hc' hs' => ?_⟩
        · obtain ⟨cs, t, _, r1, _⟩ := h3.boxes k x hx
          have := (Array.getElem?_eq_some_iff.1 r1).1
          simp only [] at this hbm
          omega
        · obtain ⟨wd, hcp⟩ := (h3.cells κ av' hk hon' i' ac' hi').sz hc'
          have := hcp.block_lt hs'
          omega
      · obtain ⟨r1, r2, r3, r4⟩ := hcbf b hb
        exact ⟨⟨r2, r3⟩, fun κ av' _ hk hon' i' ac' hi' hc' => r4 κ av' hk hon' i' ac' hi' hc'⟩
    exact ⟨hrest.1, hrest.2, fun i' ac' hi' hc' hs' => (h2.capd 0 _ 0 _ hl0 hon hl0 hon i ac i' ac' hi hi' hc hc' b hs hs').2⟩
  · obtain ⟨q1, q2⟩ := h2.own0 0 i b hb
    refine ⟨?_, q2, fun κ i' hκ ho' => ?_, fun i' hb' => (h2.ownd _ _ _ _ _ hb hb').2⟩
    · rcases q1 with q1 | ⟨j, i', q1⟩
      · exact .inl (Nat.le_trans hw0 q1)
      · exact (h1.own0 _ _ _ q1).1
    · rcases q1 with q1 | ⟨j, i2, q1⟩
      · have h9 := (h1.own0 _ _ _ ho'.1).2
        have q1' : w.heap.size ≤ b := q1
        omega
      · obtain ⟨e1, _⟩ := h1.ownd _ _ _ _ _ q1 ho'.1
        exact ho'.2 ⟨by omega, by omega⟩

theorem op_call {E : Env} {m m' : List (Nat × AV)} {o : Oper} {f : FuncId} {fn : Func} {args : Array Operand} {tys : Array TypeId} {d : Nat} {ins outs vs : List V}
    (hPC : PC E.P f (ins.map .val) outs []) (ho : o.op = .call { callee := .value (.func f), args := args, argTypes := tys }) (hd : o.dst = some d) (hlt : d < E.nt)
    (hf : E.P.funcs[f]? = some fn) (hfb : fn.body.isNone = false) (hfn : (fn.name == "runtime.NumGoroutine") = false) (hlen : args.size = ins.length)
    (ha : acqA m (args.toList.zip ins) = some (vs, m')) (hle : Vsle ins vs) (hnb : ∀ v ∈ outs, ∀ c ∈ v.acs, (dOf c).isSome = true) :
    OpOK E m o (put m' (3 * d) (avOf outs)) := by
  intro a w Q ⟨G, h⟩
  obtain ⟨J, hJ⟩ := look_bound m
  obtain ⟨G1, mv, h1, hg, eF, eB, hvl, hlow, hheld⟩ := acqA_held (args.toList.zip ins) J h (fun _ _ => rfl) ha
  have hil : ins.length = vs.length := hle.length
  have hzl : (args.toList.zip ins).length = ins.length := by simp [List.length_zip, hlen]
  -- the arguments held aside, as the callee wants them
  have hin : ∀ j v, ins[j]? = some v → ∃ v', look mv (3 * (J + j) + 2) = some (.val v') ∧ Vle v v' ∧ VSh (G1.val (3 * (J + j) + 2)) 0 v' (a.eval (args.getD j (.global 0))) := by
    intro j v hj
    obtain ⟨v', h2, h3⟩ := hle.at_ hj
    have hjl : j < ins.length := (List.getElem?_eq_some_iff.1 hj).1
    obtain ⟨h4, h5⟩ := hheld j v' h2
    refine ⟨v', h4, h3, ?_⟩
    have hjx : j < args.size := by omega
    have := h5 (args[j], v) (by rw [List.getElem?_zip_eq_some]; exact ⟨by simp [hjx], hj⟩)
    simpa [Array.getD, hjx] using this
  obtain ⟨hlo1, hlo2⟩ := acqA_low ha
  refine enter_core (args.toList.map a.eval) hPC hd hlt hnb h hJ h1 hg eF eB hlow (by simp [hlen]) (fun j v hj => ?_) hlo1 hlo2 ?_
  · obtain ⟨v', q1, q2, q3⟩ := hin j v hj
    refine ⟨v', q1, q2, ?_⟩
    have hjx : j < args.size := by rw [hlen]; exact (List.getElem?_eq_some_iff.1 hj).1
    simpa [Array.getD, List.getD, hjx] using q3
  · have hb' : fn.body ≠ none := fun he => by rw [he] at hfb; simp at hfb
    have hn' : ¬ fn.name = "runtime.NumGoroutine" := fun he => by rw [he] at hfn; simp at hfn
    simp [execOp, ho, resolve, Act.eval, Deferred.ofValue, invoke, callFunc, hf, hb', hn', pure]
    apply Array.ext'; simp

/-- Captured data, held aside behind the arguments. -/
theorem caps_held {E : Env} {a : Act} {w : World} : ∀ (ds : List D) (J : Nat) {us : List Value} {B : List Nat} {G : Gh} {mv m : List (Nat × AV)}, RelG E G ⟨mv⟩ a w → Agr mv m → RdL w G.F ds us B →
    ∃ G' mv', RelG E G' ⟨mv'⟩ a w ∧ Agr mv' m ∧ G'.F = G.F ∧ G'.bm = G.bm ∧ (∀ κ, κ % 3 = 2 → κ < 3 * J + 2 → look mv' κ = look mv κ ∧ G'.val κ = G.val κ) ∧
      ∀ j d, ds[j]? = some d → look mv' (3 * (J + j) + 2) = some (.val (.one (dv d))) ∧ VSh (G'.val (3 * (J + j) + 2)) 0 (.one (dv d)) (us.getD j undef)
  | [], J, us, B, G, mv, m, h, hg, hr => ⟨G, mv, h, hg, rfl, rfl, fun _ _ _ => ⟨rfl, rfl⟩, fun j d hj => by simp at hj⟩
  | d :: ds, J, us, B, G, mv, m, h, hg, hr => by
    simp only [RdL] at hr
    obtain ⟨u, us', B1, B2, rfl, rfl, r1, r2⟩ := hr
    obtain ⟨G1, h3, e1, e2, e3, e4⟩ := h.virt J (.one (dv d)) u (Taken.dat r1) rfl
    have hg2 : Agr (put mv (3 * J + 2) (.val (.one (dv d)))) m := fun κ hκ => by
      rw [look_put, if_neg (by omega)]; exact hg κ hκ
    obtain ⟨G2, mv2, q1, q2, q3, q4, q6, q7⟩ := caps_held ds (J + 1) h3 hg2 (by rw [e1]; exact r2)
    refine ⟨G2, mv2, q1, q2, q3.trans e1, q4.trans e2, fun κ hκ hlt => ?_, fun j d' hj => ?_⟩
    · obtain ⟨p1, p2⟩ := q6 κ hκ (by omega)
      rw [look_put, if_neg (by omega)] at p1
      exact ⟨p1, p2.trans (e3 κ (by omega))⟩
    · cases j with
      | zero =>
        obtain rfl : d = d' := by simpa using hj
        obtain ⟨p1, p2⟩ := q6 (3 * J + 2) (by omega) (by omega)
        rw [look_put, if_pos rfl] at p1
        refine ⟨by simpa using p1, ?_⟩
        simp only [Nat.add_zero, List.getD_cons_zero]
        rw [p2]; exact e4
      | succ j =>
        obtain ⟨p1, p2⟩ := q7 j d' (by simpa using hj)
        rw [show 3 * (J + 1 + j) + 2 = 3 * (J + (j + 1)) + 2 by omega] at p1 p2
        exact ⟨p1, by simpa using p2⟩

/-- The call of a function value. -/
theorem op_callClo {E : Env} {m m' : List (Nat × AV)} {o : Oper} {f : FuncId} {fn : Func} {x : Operand} {args : Array Operand} {tys : Array TypeId} {d wd : Nat} {ins outs vs : List V} {caps : List D} {c1 o1 : Bool}
    (hPC : PC E.P f ((ins ++ caps.map fun d => V.one (dv d)).map .val) outs []) (ho : o.op = .call { callee := .value x, args := args, argTypes := tys }) (hd : o.dst = some d) (hlt : d < E.nt)
    (hcl : opd wd m x = some (.one (.v (.fn f caps) c1 o1)))
    (hf : E.P.funcs[f]? = some fn) (hfb : fn.body.isNone = false) (hfn : (fn.name == "runtime.NumGoroutine") = false) (hlen : args.size = ins.length)
    (ha : acqA m (args.toList.zip ins) = some (vs, m')) (hle : Vsle ins vs) (hnb : ∀ v ∈ outs, ∀ c ∈ v.acs, (dOf c).isSome = true) :
    OpOK E m o (put m' (3 * d) (avOf outs)) := by
  intro a w Q ⟨G, h⟩
  obtain ⟨val, own, hs, hc⟩ := opd_ok h hcl
  obtain ⟨B, hrd, _⟩ := hc 0 _ rfl
  simp only [Rd] at hrd
  obtain ⟨cvs, hval, hcr⟩ := hrd
  have hxe : a.eval x = .func (.func f) #[] cvs.toArray := hs.trans hval
  obtain ⟨J, hJ⟩ := look_bound m
  obtain ⟨G1, mv, h1, hg, eF, eB, hvl, hlow, hheld⟩ := acqA_held (args.toList.zip ins) J h (fun _ _ => rfl) ha
  have hil : ins.length = vs.length := hle.length
  have hzl : (args.toList.zip ins).length = ins.length := by simp [List.length_zip, hlen]
  obtain ⟨G2, mv2, h2, hg2, eF2, eB2, hlow2, hheld2⟩ := caps_held caps (J + ins.length) h1 hg (by rw [eF]; exact hcr)
  have hcl' := RdL.length hcr
  obtain ⟨hlo1, hlo2⟩ := acqA_low ha
  refine enter_core (args.toList.map a.eval ++ cvs) hPC hd hlt hnb h hJ h2 hg2 (eF2.trans eF) (eB2.trans eB) (fun κ hκ hlt => ?_) (by simp [hlen, hcl']) (fun j v hj => ?_) hlo1 hlo2 ?_
  · obtain ⟨p1, p2⟩ := hlow2 κ hκ (by omega)
    obtain ⟨p3, p4⟩ := hlow κ hκ hlt
    exact ⟨p1.trans p3, p2.trans p4⟩
  · by_cases hjl : j < ins.length
    · rw [List.getElem?_append_left hjl] at hj
      obtain ⟨v', q2, q3⟩ := hle.at_ hj
      obtain ⟨q4, q5⟩ := hheld j v' q2
      obtain ⟨p1, p2⟩ := hlow2 (3 * (J + j) + 2) (by omega) (by omega)
      refine ⟨v', p1.trans q4, q3, ?_⟩
      have hjx : j < args.size := by omega
      have := q5 (args[j], v) (by rw [List.getElem?_zip_eq_some]; exact ⟨by simp [hjx], hj⟩)
      rw [p2]
      have e : (args.toList.map a.eval ++ cvs).getD j undef = a.eval args[j] := by
        simp [List.getD, List.getElem?_append_left, hjx]
      rw [e]; exact this
    · rw [List.getElem?_append_right (by omega), List.getElem?_map] at hj
      obtain ⟨dd, hdd, rfl⟩ := Option.map_eq_some_iff.1 hj
      obtain ⟨q1, q2⟩ := hheld2 (j - ins.length) dd hdd
      rw [show 3 * (J + ins.length + (j - ins.length)) + 2 = 3 * (J + j) + 2 by omega] at q1 q2
      refine ⟨_, q1, Vle.refl _, ?_⟩
      have e : (args.toList.map a.eval ++ cvs).getD j undef = cvs.getD (j - ins.length) undef := by
        simp only [List.getD]
        rw [List.getElem?_append_right (by simp; omega)]
        simp [hlen]
      rw [e]; exact q2
  · have hb' : fn.body ≠ none := fun he => by rw [he] at hfb; simp at hfb
    have hn' : ¬ fn.name = "runtime.NumGoroutine" := fun he => by rw [he] at hfn; simp at hfn
    simp [execOp, ho, resolve, hxe, Deferred.ofValue, invoke, callFunc, hf, hb', hn', pure]
end Go.RF
