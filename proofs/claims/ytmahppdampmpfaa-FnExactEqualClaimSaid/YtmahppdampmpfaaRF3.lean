/- A logic over the walk in which memory is hidden, part 3: weaker knowledge, new memory, one slot. -/
import Derived.Test.YtmahppdampmpfaaRF2
set_option linter.unusedVariables false
namespace Go.RF
open Go.RowKit (Below)

def ACle : AC → AC → Prop
  | .v d c o, .v d' c' o' => d = d' ∧ (c = true → c' = true) ∧ (o = true → o' = true)
  | .bp k o, .bp k' o' => k = k' ∧ o = o'
  | .bs k o, .bs k' o' => k = k' ∧ o = o'
  | _, _ => False
def ACsle : List AC → List AC → Prop
  | [], [] => True
  | c :: cs, c' :: cs' => ACle c c' ∧ ACsle cs cs'
  | _, _ => False
def Vle : V → V → Prop
  | .one c, .one c' => ACle c c'
  | .agg cs, .agg cs' => ACsle cs cs'
  | _, _ => False
def Vsle : List V → List V → Prop
  | [], [] => True
  | c :: cs, c' :: cs' => Vle c c' ∧ Vsle cs cs'
  | _, _ => False
def AVle : AV → AV → Prop
  | .val v, .val v' => Vle v v'
  | .cnd g v, .cnd g' v' => (g → g') ∧ Vle v v'
  | .tup vs, .tup vs' => Vsle vs vs'
  | _, _ => False
def Le (st' st : St) : Prop := ∀ κ av', look st'.m κ = some av' → ∃ av, look st.m κ = some av ∧ AVle av' av

theorem ACle.refl : ∀ c : AC, ACle c c
  | .v d c o => ⟨rfl, id, id⟩
  | .bp k o => ⟨rfl, rfl⟩
  | .bs k o => ⟨rfl, rfl⟩
theorem ACsle.refl : ∀ cs : List AC, ACsle cs cs
  | [] => trivial
  | c :: cs => ⟨ACle.refl c, ACsle.refl cs⟩
theorem Vle.refl : ∀ v : V, Vle v v
  | .one c => ACle.refl c
  | .agg cs => ACsle.refl cs
theorem Vsle.refl : ∀ vs : List V, Vsle vs vs
  | [] => trivial
  | v :: vs => ⟨Vle.refl v, Vsle.refl vs⟩
theorem AVle.refl : ∀ v : AV, AVle v v
  | .val v => Vle.refl v
  | .cnd g v => ⟨id, Vle.refl v⟩
  | .tup vs => Vsle.refl vs

theorem ACsle.length : ∀ {cs cs' : List AC}, ACsle cs cs' → cs.length = cs'.length
  | [], [], _ => rfl
  | c :: cs, c' :: cs', h => by simp [ACsle.length h.2]
  | [], _ :: _, h => h.elim
  | _ :: _, [], h => h.elim
theorem ACsle.at_ : ∀ {cs cs' : List AC}, ACsle cs cs' → ∀ {i : Nat} {c : AC}, cs[i]? = some c → ∃ c', cs'[i]? = some c' ∧ ACle c c'
  | [], [], _, i, c, h => by simp at h
  | c :: cs, c' :: cs', h, 0, x, hx => by
    obtain rfl : c = x := by simpa using hx
    exact ⟨c', rfl, h.1⟩
  | c :: cs, c' :: cs', h, i + 1, x, hx => by
    obtain ⟨y, h1, h2⟩ := ACsle.at_ h.2 (i := i) (c := x) (by simpa using hx)
    exact ⟨y, by simpa using h1, h2⟩
  | [], _ :: _, h, _, _, _ => h.elim
  | _ :: _, [], h, _, _, _ => h.elim
theorem ACsle.append : ∀ {a a' b b' : List AC}, ACsle a a' → ACsle b b' → ACsle (a ++ b) (a' ++ b')
  | [], [], _, _, _, h => h
  | c :: cs, c' :: cs', _, _, h, h' => ⟨h.1, ACsle.append h.2 h'⟩
  | [], _ :: _, _, _, h, _ => h.elim
  | _ :: _, [], _, _, h, _ => h.elim
theorem Vle.acs : ∀ {v v' : V}, Vle v v' → ACsle v.acs v'.acs
  | .one c, .one c', h => ⟨h, trivial⟩
  | .agg cs, .agg cs', h => h
  | .one _, .agg _, h => h.elim
  | .agg _, .one _, h => h.elim
theorem Vsle.acs : ∀ {vs vs' : List V}, Vsle vs vs' → ACsle (vs.flatMap V.acs) (vs'.flatMap V.acs)
  | [], [], _ => trivial
  | v :: vs, v' :: vs', h => by simpa using ACsle.append h.1.acs (Vsle.acs h.2)
  | [], _ :: _, h => h.elim
  | _ :: _, [], h => h.elim
theorem AVle.acs : ∀ {v v' : AV}, AVle v v' → ACsle v.acs v'.acs
  | .val v, .val v', h => Vle.acs h
  | .cnd g v, .cnd g' v', h => Vle.acs h.2
  | .tup vs, .tup vs', h => Vsle.acs h
  | .val _, .cnd _ _, h => h.elim
  | .cnd _ _, .val _, h => h.elim
  | .val _, .tup _, h => h.elim
  | .cnd _ _, .tup _, h => h.elim
  | .tup _, .val _, h => h.elim
  | .tup _, .cnd _ _, h => h.elim
theorem AVle.on : ∀ {v v' : AV}, AVle v v' → v.on → v'.on
  | .val v, .val v', h, _ => trivial
  | .cnd g v, .cnd g' v', h, hg => h.1 hg
  | .tup vs, .tup vs', h, _ => trivial
  | .val _, .cnd _ _, h, _ => h.elim
  | .cnd _ _, .val _, h, _ => h.elim
  | .val _, .tup _, h, _ => h.elim
  | .cnd _ _, .tup _, h, _ => h.elim
  | .tup _, .val _, h, _ => h.elim
  | .tup _, .cnd _ _, h, _ => h.elim

theorem Vle.sh {val : Nat → Value} : ∀ {v v' : V} {i : Nat} {u : Value}, Vle v v' → VSh val i v' u → VSh val i v u
  | .one _, .one _, _, _, _, h => h
  | .agg cs, .agg cs', i, u, h, h' => by simp only [VSh] at h' ⊢; rw [ACsle.length h]; exact h'
  | .one _, .agg _, _, _, h, _ => h.elim
  | .agg _, .one _, _, _, h, _ => h.elim
theorem Vsle.sh {val : Nat → Value} : ∀ {vs vs' : List V} {i : Nat} {us : List Value}, Vsle vs vs' → VsSh val i vs' us → VsSh val i vs us
  | [], [], _, _, _, h => h
  | v :: vs, v' :: vs', i, us, h, h' => by
    simp only [VsSh] at h' ⊢
    obtain ⟨u, us', rfl, h1, h2⟩ := h'
    refine ⟨u, us', rfl, h.1.sh h1, ?_⟩
    rw [ACsle.length h.1.acs]; exact Vsle.sh h.2 h2
  | [], _ :: _, _, _, h, _ => h.elim
  | _ :: _, [], _, _, h, _ => h.elim
theorem AVle.sh {val : Nat → Value} : ∀ {v v' : AV} {u : Value}, AVle v v' → AVSh val v' u → AVSh val v u
  | .val v, .val v', _, h, h' => Vle.sh (v := v) (v' := v') h h'
  | .cnd g v, .cnd g' v', _, h, h' => Vle.sh (v := v) (v' := v') h.2 h'
  | .tup vs, .tup vs', _, h, h' => by
    obtain ⟨us, rfl, hs⟩ := h'
    exact ⟨us, rfl, Vsle.sh h hs⟩
  | .val _, .cnd _ _, _, h, _ => h.elim
  | .cnd _ _, .val _, _, h, _ => h.elim
  | .val _, .tup _, _, h, _ => h.elim
  | .cnd _ _, .tup _, _, h, _ => h.elim
  | .tup _, .val _, _, h, _ => h.elim
  | .tup _, .cnd _ _, _, h, _ => h.elim

def AC.ow : AC → Bool
  | .v (.raw _) _ _ => false
  | .v _ _ o => o
  | _ => false

theorem ACle.acr {F : Fz} {bm : Nat → Nat} {own own' : Nat → Prop} {w : World} : ∀ {c c' : AC} {u : Value}, ACle c c' → ACR F bm own w c' u →
    (c.ow = true → ∀ b, own b → own' b) → ACR F bm own' w c u
  | .v d c o, .v d' c' o', u, h, h', hown => by
    obtain ⟨rfl, hc, ho⟩ := h
    simp only [ACR] at h' ⊢
    obtain ⟨B, h1, h2, h3⟩ := h'
    refine ⟨B, h1, fun h => ⟨(h2 (ho h)).1, fun b hb => ?_, fun hcc b hb => ?_⟩, fun h => h3 (hc h)⟩
    · cases d with
      | raw x => simp only [Rd] at h1; rw [h1.2.2] at hb; simp at hb
      | _ => exact hown h b ((h2 (ho h)).2.1 b hb)
    · cases d with
      | raw x => obtain ⟨wd, es, he, _⟩ := h3 (hc hcc); simp at he
      | _ => exact hown h b ((h2 (ho h)).2.2 (hc hcc) b hb)
  | .bp k o, .bp k' o', u, h, h', _ => by obtain ⟨rfl, rfl⟩ := h; exact h'
  | .bs k o, .bs k' o', u, h, h', _ => by obtain ⟨rfl, rfl⟩ := h; exact h'
  | .bs .., .bp .., _, h, _, _ => h.elim
  | .bp .., .bs .., _, h, _, _ => h.elim
  | .bs .., .v .., _, h, _, _ => h.elim
  | .v .., .bs .., _, h, _, _ => h.elim
  | .v .., .bp .., _, h, _, _ => h.elim
  | .bp .., .v .., _, h, _, _ => h.elim
theorem ACle.cap : ∀ {c c' : AC}, ACle c c' → c.cap = true → c'.cap = true
  | .v d c o, .v d' c' o', h, hc => h.2.1 hc
  | .bp k o, .bp k' o', h, hc => hc
  | .bs k o, .bs k' o', h, hc => hc
  | .bs .., .bp .., h, _ => h.elim
  | .bp .., .bs .., h, _ => h.elim
  | .bs .., .v .., h, _ => h.elim
  | .v .., .bs .., h, _ => h.elim
  | .v .., .bp .., h, _ => h.elim
  | .bp .., .v .., h, _ => h.elim

/-- Knowing less; 'own' may be let go where it is not claimed. -/
theorem RelG.weaken {E : Env} {G : Gh} {st st' : St} {a : Act} {w : World} (h : RelG E G st a w) (hle : Le st' st) (own' : Nat → Nat → Nat → Prop)
    (h1 : ∀ κ i b, own' κ i b → G.own κ i b)
    (h2 : ∀ κ av i ac, look st'.m κ = some av → av.acs[i]? = some ac → ac.ow = true → ∀ b, G.own κ i b → own' κ i b) :
    RelG E { G with own := own' } st' a w where
  nt := h.nt
  dfs := h.dfs
  slots := fun s av hs hon => by
    obtain ⟨av2, k1, k2⟩ := hle _ _ hs
    exact k2.sh (h.slots s av2 k1 (k2.on hon))
  boxes := fun k av hs => by
    obtain ⟨av2, k1, k2⟩ := hle _ _ hs
    obtain ⟨cs, t, rfl, r⟩ := h.boxes k av2 k1
    match av, k2 with
    | .val (.agg cs'), k2 =>
      have hl : cs'.length = cs.length := ACsle.length k2
      exact ⟨cs', t, rfl, by rw [hl]; exact r⟩
  cells := fun κ av hs hon i ac hi => by
    obtain ⟨av2, k1, k2⟩ := hle _ _ hs
    obtain ⟨ac2, k3, k4⟩ := k2.acs.at_ hi
    exact k4.acr (h.cells κ av2 k1 (k2.on hon) i ac2 k3) (fun ho b hb => h2 κ av i ac hs hi ho b hb)
  inj := fun k k' x x' hk hk' => by
    obtain ⟨y, k1, _⟩ := hle _ _ hk
    obtain ⟨y', k1', _⟩ := hle _ _ hk'
    exact h.inj k k' y y' k1 k1'
  capk := fun κ av hs hon i ac hi hc b hb => by
    obtain ⟨av2, k1, k2⟩ := hle _ _ hs
    obtain ⟨ac2, k3, k4⟩ := k2.acs.at_ hi
    obtain ⟨r1, r2⟩ := h.capk κ av2 k1 (k2.on hon) i ac2 k3 (k4.cap hc) b hb
    refine ⟨r1, fun k x hx => ?_⟩
    obtain ⟨y, k5, _⟩ := hle _ _ hx
    exact r2 k y k5
  capd := fun κ av κ' av' hs hon hs' hon' i ac i' ac' hi hi' hc hc' b hb hb' => by
    obtain ⟨av2, k1, k2⟩ := hle _ _ hs
    obtain ⟨ac2, k3, k4⟩ := k2.acs.at_ hi
    obtain ⟨av2', k1', k2'⟩ := hle _ _ hs'
    obtain ⟨ac2', k3', k4'⟩ := k2'.acs.at_ hi'
    exact h.capd κ av2 κ' av2' k1 (k2.on hon) k1' (k2'.on hon') i ac2 i' ac2' k3 k3' (k4.cap hc) (k4'.cap hc') b hb hb'
  fsz := h.fsz
  f0 := h.f0
  f1 := h.f1
  fc := h.fc
  kept := h.kept
  ownd := fun κ i κ' i' b hb hb' => h.ownd κ i κ' i' b (h1 _ _ _ hb) (h1 _ _ _ hb')
  own0 := fun κ i b hb => h.own0 κ i b (h1 _ _ _ hb)
  size := h.size
  os := h.os
  tape := h.tape
  out := h.out
  pbf := h.pbf

theorem ACR.sz {F : Fz} {bm : Nat → Nat} {own : Nat → Prop} {w : World} {ac : AC} {u : Value} (h : ACR F bm own w ac u) (hc : ac.cap = true) : ∃ wd, CapOK w F wd u := by
  cases ac with
  | v d c o =>
    obtain ⟨B, _, _, h3⟩ := h
    obtain ⟨wd, es, _, hk⟩ := h3 hc
    exact ⟨wd, hk⟩
  | bp k off => simp [AC.cap] at hc
  | bs k off => simp [AC.cap] at hc

/-- New memory, new frozen cells: all that is known stays known. -/
theorem RelG.grow {E : Env} {G : Gh} {st : St} {a : Act} {w w' : World} (h : RelG E G st a w) (hb : Below w.heap.size w w') (F' : Fz)
    (h1 : ∀ b o, G.F b o → F' b o) (h2 : ∀ b o, F' b o → G.F b o ∨ (w.heap.size ≤ b ∧ b < w'.heap.size)) :
    RelG E { G with F := F' } st a w' := by
  have hcell : ∀ b o, G.F b o → w'.cell? ⟨b, o, none⟩ = w.cell? ⟨b, o, none⟩ := fun b o hf => hb.cell (p := ⟨b, o, none⟩) (h.fsz b o hf)
  have hsp : ∀ (ac : AC) (own : Nat → Prop) (u : Value), ACR G.F G.bm own w ac u → ac.cap = true → ∀ b, spareB u = some b → b < w.heap.size := by
    intro ac own u hr hc b hs
    obtain ⟨wd, hk⟩ := hr.sz hc
    exact hk.block_lt hs
  exact {
    nt := h.nt
    dfs := h.dfs
    slots := h.slots
    boxes := fun k av hs => by
      obtain ⟨cs, t, rfl, r1, r2, r3⟩ := h.boxes k av hs
      have hlt : G.bm k < w.heap.size := (Array.getElem?_eq_some_iff.1 r1).1
      refine ⟨cs, t, rfl, (hb.block _ hlt).trans r1, fun o hf => ?_, r3⟩
      rcases h2 _ _ hf with hf | ⟨hf, _⟩
      · exact r2 o hf
      · exact absurd hlt (Nat.not_lt.2 hf)
    cells := fun κ av hs hon i ac hi => (h.cells κ av hs hon i ac hi).mono h1 hcell (fun _ _ => rfl) (fun _ => id) (fun hc b hsb hlt =>
      ⟨hb.block _ hlt, fun o hf => by
        rcases h2 _ _ hf with hf | ⟨hf, _⟩
        · exact hf
        · omega⟩)
    inj := h.inj
    capk := h.capk
    capd := h.capd
    fsz := fun b o hf => by
      rcases h2 _ _ hf with hf | ⟨_, hf⟩
      · exact Nat.lt_of_lt_of_le (h.fsz _ _ hf) hb.size
      · exact hf
    f0 := fun b o hf => h1 _ _ (h.f0 b o hf)
    f1 := fun b o hf => by
      rcases h2 _ _ hf with hf | ⟨hf, _⟩
      · exact h.f1 _ _ hf
      · exact .inr (.inl (Nat.le_trans h.size hf))
    fc := fun b o hf => (hcell b o (h.f0 b o hf)).trans (h.fc b o hf)
    kept := fun b hk => (hb.block b (Nat.lt_of_lt_of_le (E.hk b hk) h.size)).trans (h.kept b hk)
    ownd := h.ownd
    own0 := fun κ i b hb' => ⟨(h.own0 κ i b hb').1, Nat.lt_of_lt_of_le (h.own0 κ i b hb').2 hb.size⟩
    size := Nat.le_trans h.size hb.size
    os := hb.os.trans h.os
    tape := hb.tape.trans h.tape
    out := hb.output.trans h.out
    pbf := h.pbf }

def upd {α : Type} (f : Nat → α) (k : Nat) (x : α) : Nat → α := fun j => if j = k then x else f j
theorem upd_same {α : Type} (f : Nat → α) (k : Nat) (x : α) : upd f k x k = x := by simp [upd]
theorem upd_ne {α : Type} (f : Nat → α) (k j : Nat) (x : α) (h : j ≠ k) : upd f k x j = f j := by simp [upd, h]

/-- A key that is no box takes a value. -/
theorem RelG.key {E : Env} {G : Gh} {st : St} {a a' : Act} {w : World} (h : RelG E G st a w) (q : Nat) (hq : ∀ k, q ≠ 3 * k + 1) (av : AV) (val : Nat → Value) (ow : Nat → Nat → Prop)
    (ha1 : a'.tmps.size = E.nt) (ha2 : a'.defers = []) (ha3 : ∀ s, 3 * s ≠ q → a'.tmps.getD s undef = a.tmps.getD s undef)
    (hs : ∀ s, 3 * s = q → av.on → AVSh val av (a'.tmps.getD s undef)) (hc : av.on → ∀ i ac, av.acs[i]? = some ac → ACR G.F G.bm (ow i) w ac (val i))
    (hcap : av.on → ∀ i ac, av.acs[i]? = some ac → ac.cap = true → ∀ b, spareB (val i) = some b → ((¬ E.keep b ∧ (E.w0.heap.size ≤ b ∨ E.cb b)) ∧ ∀ k x, look st.m (3 * k + 1) = some x → G.bm k ≠ b) ∧
      (∀ κ av', κ ≠ q → look st.m κ = some av' → av'.on → ∀ i' ac', av'.acs[i']? = some ac' → ac'.cap = true → spareB (G.val κ i') ≠ some b) ∧
      (∀ i' ac', av.acs[i']? = some ac' → ac'.cap = true → spareB (val i') = some b → i = i'))
    (how : ∀ i b, ow i b → (E.w0.heap.size ≤ b ∨ E.ob b) ∧ b < w.heap.size ∧ (∀ κ i', κ ≠ q → ¬ G.own κ i' b) ∧ ∀ i', ow i' b → i = i') :
    RelG E { G with val := upd G.val (q) val, own := upd G.own (q) ow } { m := put st.m (q) av } a' w where
  nt := ha1
  dfs := ha2
  slots := fun s av' hs' hon => by
    simp only [look_put] at hs'
    by_cases he : 3 * s = q
    · rw [if_pos he] at hs'
      obtain rfl : av = av' := by simpa using hs'
      rw [he]
      simpa [upd_same] using hs s he hon
    · rw [if_neg he] at hs'
      have := h.slots s av' hs' hon
      simp only [upd_ne _ _ _ _ he]
      rw [ha3 s he]; exact this
  boxes := fun k av' hs' => by
    have he' : ¬ 3 * k + 1 = q := fun he => hq k he.symm
    simp only [look_put, if_neg he'] at hs'
    simp only [upd_ne _ _ _ _ he']
    exact h.boxes k av' hs'
  cells := fun κ av' hs' hon i ac hi => by
    simp only [look_put] at hs'
    by_cases he : κ = q
    · subst he
      rw [if_pos rfl] at hs'
      obtain rfl : av = av' := by simpa using hs'
      simpa [upd_same] using hc hon i ac hi
    · rw [if_neg he] at hs'
      simp only [upd_ne _ _ _ _ he]
      exact h.cells κ av' hs' hon i ac hi
  inj := fun k k' x x' hk hk' => by
    have he' : ¬ 3 * k + 1 = q := fun he => hq k he.symm
    have he'' : ¬ 3 * k' + 1 = q := fun he => hq k' he.symm
    simp only [look_put, if_neg he'] at hk
    simp only [look_put, if_neg he''] at hk'
    exact h.inj k k' x x' hk hk'
  capk := fun κ av' hs' hon i ac hi hcc b hb => by
    have hbx : ∀ k x, look (put st.m (q) av) (3 * k + 1) = some x → look st.m (3 * k + 1) = some x := fun k x hx => by
      have he' : ¬ 3 * k + 1 = q := fun he => hq k he.symm
      simpa only [look_put, if_neg he'] using hx
    simp only [look_put] at hs'
    by_cases he : κ = q
    · subst he
      rw [if_pos rfl] at hs'
      obtain rfl : av = av' := by simpa using hs'
      simp only [upd_same] at hb
      obtain ⟨⟨r1, r2⟩, _⟩ := hcap hon i ac hi hcc b hb
      exact ⟨r1, fun k x hx => r2 k x (hbx k x hx)⟩
    · rw [if_neg he] at hs'
      simp only [upd_ne _ _ _ _ he] at hb
      obtain ⟨r1, r2⟩ := h.capk κ av' hs' hon i ac hi hcc b hb
      exact ⟨r1, fun k x hx => r2 k x (hbx k x hx)⟩
  capd := fun κ av1 κ' av2 hs1 hon1 hs2 hon2 i ac i' ac' hi hi' hc1 hc2 b hb hb' => by
    simp only [look_put] at hs1 hs2
    by_cases he : κ = q
    · subst he
      rw [if_pos rfl] at hs1
      obtain rfl : av = av1 := by simpa using hs1
      simp only [upd_same] at hb
      obtain ⟨_, r2, r3⟩ := hcap hon1 i ac hi hc1 b hb
      by_cases he2 : κ' = κ
      · subst he2
        rw [if_pos rfl] at hs2
        obtain rfl : av = av2 := by simpa using hs2
        simp only [upd_same] at hb'
        exact ⟨rfl, r3 i' ac' hi' hc2 hb'⟩
      · rw [if_neg he2] at hs2
        simp only [upd_ne _ _ _ _ he2] at hb'
        exact absurd hb' (r2 κ' av2 he2 hs2 hon2 i' ac' hi' hc2)
    · rw [if_neg he] at hs1
      simp only [upd_ne _ _ _ _ he] at hb
      by_cases he2 : κ' = q
      · subst he2
        rw [if_pos rfl] at hs2
        obtain rfl : av = av2 := by simpa using hs2
        simp only [upd_same] at hb'
        obtain ⟨_, r2, r3⟩ := hcap hon2 i' ac' hi' hc2 b hb'
        exact absurd hb (r2 κ av1 he hs1 hon1 i ac hi hc1)
      · rw [if_neg he2] at hs2
        simp only [upd_ne _ _ _ _ he2] at hb'
        exact h.capd κ av1 κ' av2 hs1 hon1 hs2 hon2 i ac i' ac' hi hi' hc1 hc2 b hb hb'
  fsz := h.fsz
  f0 := h.f0
  f1 := h.f1
  fc := h.fc
  kept := h.kept
  ownd := fun κ i κ' i' b hb hb' => by
    by_cases he : κ = q
    · subst he
      simp only [upd_same] at hb
      by_cases he2 : κ' = κ
      · subst he2
        simp only [upd_same] at hb'
        exact ⟨rfl, (how i b hb).2.2.2 i' hb'⟩
      · simp only [upd_ne _ _ _ _ he2] at hb'
        exact absurd hb' ((how i b hb).2.2.1 κ' i' he2)
    · simp only [upd_ne _ _ _ _ he] at hb
      by_cases he2 : κ' = q
      · subst he2
        simp only [upd_same] at hb'
        exact absurd hb ((how i' b hb').2.2.1 κ i he)
      · simp only [upd_ne _ _ _ _ he2] at hb'
        exact h.ownd κ i κ' i' b hb hb'
  own0 := fun κ i b hb => by
    by_cases he : κ = q
    · subst he
      simp only [upd_same] at hb
      exact ⟨(how i b hb).1, (how i b hb).2.1⟩
    · simp only [upd_ne _ _ _ _ he] at hb
      exact h.own0 κ i b hb
  size := h.size
  os := h.os
  tape := h.tape
  out := h.out
  pbf := h.pbf

/-- A slot takes a value. -/
theorem RelG.slot {E : Env} {G : Gh} {st : St} {a : Act} {w : World} (h : RelG E G st a w) (d : Nat) (hd : d < E.nt) (av : AV) (u : Value) (val : Nat → Value) (ow : Nat → Nat → Prop)
    (hs : av.on → AVSh val av u) (hc : av.on → ∀ i ac, av.acs[i]? = some ac → ACR G.F G.bm (ow i) w ac (val i))
    (hcap : av.on → ∀ i ac, av.acs[i]? = some ac → ac.cap = true → ∀ b, spareB (val i) = some b → ((¬ E.keep b ∧ (E.w0.heap.size ≤ b ∨ E.cb b)) ∧ ∀ k x, look st.m (3 * k + 1) = some x → G.bm k ≠ b) ∧
      (∀ κ av', κ ≠ 3 * d → look st.m κ = some av' → av'.on → ∀ i' ac', av'.acs[i']? = some ac' → ac'.cap = true → spareB (G.val κ i') ≠ some b) ∧
      (∀ i' ac', av.acs[i']? = some ac' → ac'.cap = true → spareB (val i') = some b → i = i'))
    (how : ∀ i b, ow i b → (E.w0.heap.size ≤ b ∨ E.ob b) ∧ b < w.heap.size ∧ (∀ κ i', κ ≠ 3 * d → ¬ G.own κ i' b) ∧ ∀ i', ow i' b → i = i') :
    RelG E { G with val := upd G.val (3 * d) val, own := upd G.own (3 * d) ow } { m := put st.m (3 * d) av } (a.put (some d) u) w := by
  refine h.key (3 * d) (fun k => by omega) av val ow (by simpa [Act.put] using h.nt) h.dfs (fun s hne => ?_) (fun s he hon => ?_) hc hcap how
  · have : d ≠ s := fun he => hne (by rw [he])
    simp [Act.put, Array.getElem?_setIfInBounds_ne this]
  · obtain rfl : s = d := by omega
    have hlt : s < a.tmps.size := by rw [h.nt]; exact hd
    simpa [Act.put, hlt] using hs hon
end Go.RF
