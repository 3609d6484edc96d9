/- A logic over the walk in which memory is hidden, part 5: rights given up. -/
import Derived.Test.YtmahppdampmpfaaRF4
set_option linter.unusedVariables false
namespace Go.RF
open Go.RowKit (Below)

/-- Without rights (a scalar owns nothing, and may always be said to own it). -/
def dr : AC → AC
  | .v (.raw x) _ _ => .v (.raw x) false true
  | .v d _ _ => .v d false false
  | .bp k o => .bp k o
  | .bs k o => .bs k o
def V.dr : V → V
  | .one c => .one (RF.dr c)
  | .agg cs => .agg (cs.map RF.dr)
def AV.dr : AV → AV
  | .val v => .val v.dr
  | .cnd g v => .cnd g v.dr
  | .tup vs => .tup (vs.map V.dr)
/-- The cells i to i + n - 1 let go of their rights. -/
def drR : Nat → Nat → List AC → List AC
  | _, 0, cs => cs
  | _, _, [] => []
  | 0, n + 1, c :: cs => dr c :: drR 0 n cs
  | i + 1, n, c :: cs => c :: drR i n cs
/-- Slot t lets go of its rights. -/
def clrS (m : List (Nat × AV)) (t : Nat) : List (Nat × AV) :=
  match look m (3 * t) with
  | some av => put m (3 * t) av.dr
  | none => m
/-- So do n cells of box k. -/
def clrB (m : List (Nat × AV)) (k i n : Nat) : List (Nat × AV) :=
  match look m (3 * k + 1) with
  | some (.val (.agg cs)) => put m (3 * k + 1) (.val (.agg (drR i n cs)))
  | _ => m

/-- 'less or equal, or a scalar' -/
theorem dr_cap (c : AC) : (dr c).cap = false := by
  cases c with
  | v d c o => cases d <;> rfl
  | bp k o => rfl
  | bs k o => rfl
theorem dr_ow (c : AC) : (dr c).ow = false := by
  cases c with
  | v d c o => cases d <;> rfl
  | bp k o => rfl
  | bs k o => rfl
theorem dr_acr {F : Fz} {bm : Nat → Nat} {own own' : Nat → Prop} {w : World} {c : AC} {u : Value} (h : ACR F bm own w c u) : ACR F bm own' w (dr c) u := by
  cases c with
  | v d c o =>
    obtain ⟨B, h1, h2, h3⟩ := h
    cases d with
    | raw x => exact ⟨B, h1, fun _ => by simp only [Rd] at h1; simp [h1.2.2], fun h => by simp at h⟩
    | _ => exact ⟨B, h1, fun h => by simp at h, fun h => by simp at h⟩
  | bp k o => exact h
  | bs k o => exact h
theorem dr_bp {c : AC} {k o : Nat} : dr c = .bp k o ↔ c = .bp k o := by
  cases c with
  | v d c o => cases d <;> simp [dr]
  | bp k o => simp [dr]
  | bs k o => simp [dr]

theorem drR_at (i n : Nat) : ∀ (j : Nat) (cs : List AC), (drR i n cs)[j]? = (cs[j]?).map fun c => if i ≤ j ∧ j < i + n then dr c else c := by
  induction n generalizing i with
  | zero =>
    intro j cs
    have : ∀ i, drR i 0 cs = cs := fun i => by cases i <;> cases cs <;> rfl
    rw [this]
    have e : (fun c => if i ≤ j ∧ j < i + 0 then dr c else c) = id := by funext c; rw [if_neg (by omega)]; rfl
    rw [e]; simp
  | succ n ih =>
    induction i with
    | zero =>
      intro j cs
      cases cs with
      | nil => simp [drR]
      | cons c cs =>
        cases j with
        | zero => simp [drR]
        | succ j =>
          simp only [drR, List.getElem?_cons_succ, ih]
          simp
    | succ i ih2 =>
      intro j cs
      cases cs with
      | nil => simp [drR]
      | cons c cs =>
        cases j with
        | zero => simp [drR]
        | succ j =>
          simp only [drR, List.getElem?_cons_succ, ih2]
          congr 1; funext c; congr 1; apply propext; omega
theorem drR_length (i n : Nat) (cs : List AC) : (drR i n cs).length = cs.length := by
  induction n generalizing i cs with
  | zero => cases i <;> cases cs <;> rfl
  | succ n ih =>
    induction i generalizing cs with
    | zero => cases cs <;> simp [drR, ih]
    | succ i ih2 => cases cs <;> simp [drR, ih2]

/-- What takes the place of what is known: the same shapes, each cell as it was or without its rights. -/
def Drop (S : Nat → Nat → Prop) (m m' : List (Nat × AV)) : Prop :=
  ∀ κ, match look m' κ with
    | none => look m κ = none
    | some av' => ∃ av, look m κ = some av ∧ (av'.on ↔ av.on) ∧ (∀ val u, AVSh val av u → AVSh val av' u) ∧ (∀ cs, av = .val (.agg cs) → ∃ cs', av' = .val (.agg cs') ∧ cs'.length = cs.length) ∧
      ∀ i ac', av'.acs[i]? = some ac' → ∃ ac, av.acs[i]? = some ac ∧ ((ac' = ac ∧ ¬ S κ i) ∨ ac' = dr ac)

theorem RelG.drop {E : Env} {G : Gh} {m m' : List (Nat × AV)} {a : Act} {w : World} (h : RelG E G ⟨m⟩ a w) (S : Nat → Nat → Prop) (hd : Drop S m m') :
    RelG E { G with own := fun κ i b => G.own κ i b ∧ ¬ S κ i } ⟨m'⟩ a w := by
  have hd' : ∀ κ av', look m' κ = some av' → ∃ av, look m κ = some av ∧ (av'.on ↔ av.on) ∧ (∀ val u, AVSh val av u → AVSh val av' u) ∧ (∀ cs, av = .val (.agg cs) → ∃ cs', av' = .val (.agg cs') ∧ cs'.length = cs.length) ∧
      ∀ i ac', av'.acs[i]? = some ac' → ∃ ac, av.acs[i]? = some ac ∧ ((ac' = ac ∧ ¬ S κ i) ∨ ac' = dr ac) := fun κ av' hs => by
    have := hd κ; rw [hs] at this; exact this
  have hcap : ∀ {S : Prop} {ac ac' : AC}, ((ac' = ac ∧ S) ∨ ac' = dr ac) → ac'.cap = true → ac.cap = true := by
    intro S ac ac' h hc
    rcases h with ⟨rfl, _⟩ | rfl
    · exact hc
    · rw [dr_cap] at hc; simp at hc
  exact {
    nt := h.nt
    dfs := h.dfs
    slots := fun s av' hs hon => by
      obtain ⟨av, k1, k2, k3, _⟩ := hd' _ _ hs
      exact k3 _ _ (h.slots s av k1 (k2.1 hon))
    boxes := fun k av' hs => by
      obtain ⟨av, k1, k2, k3, k4, k5⟩ := hd' _ _ hs
      obtain ⟨cs, t, rfl, r⟩ := h.boxes k av k1
      obtain ⟨cs', rfl, hl⟩ := k4 cs rfl
      exact ⟨cs', t, rfl, by rw [hl]; exact r⟩
    cells := fun κ av' hs hon i ac' hi => by
      obtain ⟨av, k1, k2, k3, k4, k5⟩ := hd' _ _ hs
      obtain ⟨ac, k6, k7⟩ := k5 i ac' hi
      have hr := h.cells κ av k1 (k2.1 hon) i ac k6
      rcases k7 with ⟨rfl, hS⟩ | rfl
      · exact hr.mono (fun _ _ => id) (fun _ _ _ => rfl) (fun _ _ => rfl) (fun b hb => ⟨hb, hS⟩) (fun _ _ _ _ => ⟨rfl, fun _ => id⟩)
      · exact dr_acr hr
    inj := fun k k' x x' hk hk' => by
      obtain ⟨y, k1, _⟩ := hd' _ _ hk
      obtain ⟨y', k1', _⟩ := hd' _ _ hk'
      exact h.inj k k' y y' k1 k1'
    capk := fun κ av' hs hon i ac' hi hc b hb => by
      obtain ⟨av, k1, k2, k3, k4, k5⟩ := hd' _ _ hs
      obtain ⟨ac, k6, k7⟩ := k5 i ac' hi
      obtain ⟨r1, r2⟩ := h.capk κ av k1 (k2.1 hon) i ac k6 (hcap k7 hc) b hb
      refine ⟨r1, fun k x hx => ?_⟩
      obtain ⟨y, k8, _⟩ := hd' _ _ hx
      exact r2 k y k8
    capd := fun κ av1 κ' av2 hs hon hs' hon' i ac i' ac' hi hi' hc hc' b hb hb' => by
      obtain ⟨av, k1, k2, k3, k4, k5⟩ := hd' _ _ hs
      obtain ⟨x, k6, k7⟩ := k5 i ac hi
      obtain ⟨av', k1', k2', k3', k4', k5'⟩ := hd' _ _ hs'
      obtain ⟨x', k6', k7'⟩ := k5' i' ac' hi'
      exact h.capd κ av κ' av' k1 (k2.1 hon) k1' (k2'.1 hon') i x i' x' k6 k6' (hcap k7 hc) (hcap k7' hc') b hb hb'
    fsz := h.fsz
    f0 := h.f0
    f1 := h.f1
    fc := h.fc
    kept := h.kept
    ownd := fun κ i κ' i' b hb hb' => h.ownd κ i κ' i' b hb.1 hb'.1
    own0 := fun κ i b hb => h.own0 κ i b hb.1
    size := h.size
    os := h.os
    tape := h.tape
    out := h.out
    pbf := h.pbf }

theorem V.dr_acs (v : V) : v.dr.acs = v.acs.map RF.dr := by cases v <;> rfl
theorem Vs.dr_acs (vs : List V) : (vs.map V.dr).flatMap V.acs = (vs.flatMap V.acs).map RF.dr := by
  induction vs with
  | nil => rfl
  | cons v vs ih => simp [V.dr_acs, ih]
theorem AV.dr_acs (v : AV) : v.dr.acs = v.acs.map RF.dr := by
  cases v with
  | val v => exact V.dr_acs v
  | cnd g v => exact V.dr_acs v
  | tup vs => exact Vs.dr_acs vs
theorem V.dr_sh {val : Nat → Value} {i : Nat} {u : Value} (v : V) : VSh val i v.dr u ↔ VSh val i v u := by
  cases v <;> simp [V.dr, VSh]
theorem Vs.dr_sh {val : Nat → Value} (vs : List V) : ∀ {i : Nat} {us : List Value}, VsSh val i (vs.map V.dr) us ↔ VsSh val i vs us := by
  induction vs with
  | nil => intro i us; rfl
  | cons v vs ih =>
    intro i us
    simp only [List.map_cons, VsSh, V.dr_sh, ih, V.dr_acs, List.length_map]
theorem AV.dr_sh {val : Nat → Value} {u : Value} (v : AV) : AVSh val v.dr u ↔ AVSh val v u := by
  cases v with
  | val v => exact V.dr_sh v
  | cnd g v => exact V.dr_sh v
  | tup vs => simp only [AV.dr, AVSh, Vs.dr_sh]
theorem AV.dr_on (v : AV) : v.dr.on ↔ v.on := by cases v <;> exact Iff.rfl

theorem Drop.id_at {S : Nat → Nat → Prop} {κ : Nat} {av : AV} (hS : ∀ i, ¬ S κ i) :
    ∃ av0, some av = some av0 ∧ (av.on ↔ av0.on) ∧ (∀ val u, AVSh val av0 u → AVSh val av u) ∧ (∀ cs, av0 = .val (.agg cs) → ∃ cs', av = .val (.agg cs') ∧ cs'.length = cs.length) ∧
      ∀ i ac', av.acs[i]? = some ac' → ∃ ac, av0.acs[i]? = some ac ∧ ((ac' = ac ∧ ¬ S κ i) ∨ ac' = dr ac) :=
  ⟨av, rfl, Iff.rfl, fun _ _ => id, fun cs h => ⟨cs, h, rfl⟩, fun i ac' hi => ⟨ac', hi, .inl ⟨rfl, hS i⟩⟩⟩

theorem drop_clrS (m : List (Nat × AV)) (t : Nat) : Drop (fun κ _ => κ = 3 * t) m (clrS m t) := by
  intro κ
  unfold clrS
  cases ht : look m (3 * t) with
  | none =>
    simp only []
    cases hk : look m κ with
    | none => rfl
    | some av =>
      refine Drop.id_at (S := fun κ _ => κ = 3 * t) (κ := κ) fun i he => ?_
      subst he; rw [ht] at hk; simp at hk
  | some av =>
    simp only [look_put]
    by_cases he : κ = 3 * t
    · rw [if_pos he]; subst he
      refine ⟨av, ht, AV.dr_on av, fun val u h => (AV.dr_sh av).2 h, fun cs h => ?_, fun i ac' hi => ?_⟩
      · subst h; exact ⟨cs.map dr, rfl, by simp⟩
      · rw [AV.dr_acs, List.getElem?_map] at hi
        obtain ⟨ac, h1, rfl⟩ := Option.map_eq_some_iff.1 hi
        exact ⟨ac, h1, .inr rfl⟩
    · rw [if_neg he]
      cases hk : look m κ with
      | none => rfl
      | some av => exact Drop.id_at (S := fun κ _ => κ = 3 * t) (κ := κ) fun i h => he h

def clrD (m : List (Nat × AV)) (k i n : Nat) (κ j : Nat) : Prop := κ = 3 * k + 1 ∧ i ≤ j ∧ j < i + n ∧ ∃ cs, look m (3 * k + 1) = some (.val (.agg cs))
theorem drop_clrB (m : List (Nat × AV)) (k i n : Nat) : Drop (clrD m k i n) m (clrB m k i n) := by
  intro κ
  have hid : (∀ cs, look m (3 * k + 1) ≠ some (.val (.agg cs))) → clrB m k i n = m := by
    intro h
    unfold clrB
    split
    · rename_i cs hc; exact absurd hc (h cs)
    · rfl
  by_cases hx : ∃ cs, look m (3 * k + 1) = some (.val (.agg cs))
  · obtain ⟨cs, hc⟩ := hx
    have e : clrB m k i n = put m (3 * k + 1) (.val (.agg (drR i n cs))) := by unfold clrB; rw [hc]
    rw [e, look_put]
    by_cases he : κ = 3 * k + 1
    · rw [if_pos he]; subst he
      refine ⟨_, hc, Iff.rfl, fun val u h => ?_, fun cs' h => ⟨_, rfl, ?_⟩, fun j ac' hj => ?_⟩
      · simp only [AVSh, VSh, drR_length] at h ⊢; exact h
      · obtain rfl : cs = cs' := by simpa using h
        exact drR_length ..
      · simp only [AV.acs, V.acs, drR_at] at hj ⊢
        obtain ⟨ac, h1, rfl⟩ := Option.map_eq_some_iff.1 hj
        refine ⟨ac, h1, ?_⟩
        split
        · exact .inr rfl
        · rename_i hn; exact .inl ⟨rfl, fun h => hn ⟨h.2.1, h.2.2.1⟩⟩
    · rw [if_neg he]
      cases hk : look m κ with
      | none => rfl
      | some av => exact Drop.id_at (S := clrD m k i n) (κ := κ) fun i h => he h.1
  · rw [hid (fun cs h => hx ⟨cs, h⟩)]
    cases hk : look m κ with
    | none => rfl
    | some av => exact Drop.id_at (S := clrD m k i n) (κ := κ) fun i h => hx h.2.2.2
end Go.RF
