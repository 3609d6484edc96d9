/- A logic over the walk in which memory is hidden, part 2: what is known of a function's slots and boxes. -/
import Derived.Test.YtmahppdampmpfaaRF1
namespace Go.RF

/-- One machine cell: a datum, whether this place holds the right to append, whether it alone holds the (tree-shaped) memory below it; or a pointer into a box. -/
inductive AC where
  | v (d : D) (c o : Bool)
  | bp (k off : Nat)
  | bs (k n : Nat)
  deriving Inhabited
inductive V where
  | one (c : AC)
  | agg (cs : List AC)
  deriving Inhabited
inductive AV where
  | val (v : V)
  | cnd (g : Prop) (v : V)
  | tup (vs : List V)

def look {α : Type} : List (Nat × α) → Nat → Option α
  | [], _ => none
  | (a, x) :: r, k => if a = k then some x else look r k
def put {α : Type} : List (Nat × α) → Nat → α → List (Nat × α)
  | [], k, y => [(k, y)]
  | (a, x) :: r, k, y => if a = k then (k, y) :: r else (a, x) :: put r k y

theorem look_put {α : Type} (l : List (Nat × α)) (k j : Nat) (y : α) : look (put l k y) j = if j = k then some y else look l j := by
  induction l with
  | nil =>
    simp only [put, look]
    by_cases h : k = j
    · rw [if_pos h, if_pos h.symm]
    · rw [if_neg h, if_neg (Ne.symm h)]
  | cons p r ih =>
    obtain ⟨a, x⟩ := p
    by_cases hak : a = k
    · subst hak
      simp only [put, if_true, look]
      by_cases h : a = j
      · rw [if_pos h, if_pos h.symm]
      · rw [if_neg h, if_neg (Ne.symm h), if_neg h]
    · simp only [put, if_neg hak, look, ih]
      by_cases h : a = j
      · subst h; rw [if_pos rfl, if_pos rfl, if_neg hak]
      · rw [if_neg h, if_neg h]

/-- What is known: slot s under the key 2 s, box k under 2 k + 1. -/
structure St where
  m : List (Nat × AV)

def V.acs : V → List AC
  | .one c => [c]
  | .agg cs => cs
def AV.acs : AV → List AC
  | .val v => v.acs
  | .cnd _ v => v.acs
  | .tup vs => vs.flatMap V.acs

structure Env where
  P : Program
  nt : Nat
  w0 : World
  F0 : Fz
  keep : Nat → Prop
  cb : Nat → Prop
  ob : Nat → Prop
  hk : ∀ b, keep b → b < w0.heap.size
  np : Nat
  pb : Nat → Nat

structure Gh where
  F : Fz
  bm : Nat → Nat
  own : Nat → Nat → Nat → Prop
  val : Nat → Nat → Value

def spareB : Value → Option Nat
  | .slice (some a) n cp => if n < cp then some a.block else none
  | _ => none

/-- The right to append: the cells behind the length, up to the capacity, are there, nobody's, and not frozen. -/
def CapOK (w : World) (F : Fz) (wd : Nat) (v : Value) : Prop :=
  ∃ A n cp, v = .slice A n cp ∧ n ≤ cp ∧ (cp = n ∨ ∃ b o cur t, A = some ⟨b, o, none⟩ ∧ w.heap[b]? = some (.cells cur t (0, 0)) ∧ o + cp * wd ≤ cur.size ∧
    ∀ j, n * wd ≤ j → j < cp * wd → ¬ F b (o + j))

def ACR (F : Fz) (bm : Nat → Nat) (own : Nat → Prop) (w : World) : AC → Value → Prop
  | .v d c o, u => ∃ B, Rd w F d u B ∧ (o = true → B.Nodup ∧ (∀ b ∈ B, own b) ∧ (c = true → ∀ b, spareB u = some b → own b)) ∧ (c = true → ∃ wd es, d = .sl wd es ∧ CapOK w F wd u)
  | .bp k off, u => u = .pointer (some ⟨bm k, off, none⟩)
  | .bs k n, u => u = .slice (some ⟨bm k, 0, none⟩) n n

/-- A value of this shape is spelt out by the cells from number i on. -/
def VSh (val : Nat → Value) (i : Nat) : V → Value → Prop
  | .one _, u => u = val i
  | .agg cs, u => u = .agg ((List.range' i cs.length).map val).toArray
def VsSh (val : Nat → Value) : Nat → List V → List Value → Prop
  | _, [], us => us = []
  | i, v :: vs, us => ∃ u us', us = u :: us' ∧ VSh val i v u ∧ VsSh val (i + v.acs.length) vs us'
def AVSh (val : Nat → Value) : AV → Value → Prop
  | .val v, u => VSh val 0 v u
  | .cnd _ v, u => VSh val 0 v u
  | .tup vs, u => ∃ us : List Value, u = .tuple us.toArray ∧ VsSh val 0 vs us

def AV.on : AV → Prop
  | .cnd g _ => g
  | _ => True

def AC.cap : AC → Bool
  | .v _ c _ => c
  | _ => false
/-- It points into box j. -/
def AC.ref : AC → Nat → Prop
  | .bp k _, j => j = k
  | .bs k _, j => j = k
  | _, _ => False

/-- A box's block: not to be kept, and new if the box is no parameter's. -/
def NK (E : Env) (k b : Nat) : Prop := ¬ E.keep b ∧ (E.np ≤ k → E.w0.heap.size ≤ b)

structure RelG (E : Env) (G : Gh) (st : St) (a : Act) (w : World) : Prop where
  nt : a.tmps.size = E.nt
  dfs : a.defers = []
  slots : ∀ s av, look st.m (3 * s) = some av → av.on → AVSh (G.val (3 * s)) av (a.tmps.getD s undef)
  boxes : ∀ k av, look st.m (3 * k + 1) = some av → ∃ cs t, av = .val (.agg cs) ∧
    w.heap[G.bm k]? = some (.cells ((List.range' 0 cs.length).map (G.val (3 * k + 1))).toArray t (0, 0)) ∧ (∀ o, ¬ G.F (G.bm k) o) ∧ NK E k (G.bm k)
  cells : ∀ κ av, look st.m κ = some av → av.on → ∀ i ac, av.acs[i]? = some ac → ACR G.F G.bm (G.own κ i) w ac (G.val κ i)
  inj : ∀ k k' x x', look st.m (3 * k + 1) = some x → look st.m (3 * k' + 1) = some x' → G.bm k = G.bm k' → k = k'
  capk : ∀ κ av, look st.m κ = some av → av.on → ∀ i ac, av.acs[i]? = some ac → ac.cap = true → ∀ b, spareB (G.val κ i) = some b →
    (¬ E.keep b ∧ (E.w0.heap.size ≤ b ∨ E.cb b)) ∧ ∀ k x, look st.m (3 * k + 1) = some x → G.bm k ≠ b
  capd : ∀ κ av κ' av', look st.m κ = some av → av.on → look st.m κ' = some av' → av'.on → ∀ i ac i' ac', av.acs[i]? = some ac → av'.acs[i']? = some ac' →
    ac.cap = true → ac'.cap = true → ∀ b, spareB (G.val κ i) = some b → spareB (G.val κ' i') = some b → κ = κ' ∧ i = i'
  fsz : ∀ b o, G.F b o → b < w.heap.size
  f0 : ∀ b o, E.F0 b o → G.F b o
  f1 : ∀ b o, G.F b o → E.F0 b o ∨ E.w0.heap.size ≤ b ∨ E.cb b
  fc : ∀ b o, E.F0 b o → w.cell? ⟨b, o, none⟩ = E.w0.cell? ⟨b, o, none⟩
  kept : ∀ b, E.keep b → w.heap[b]? = E.w0.heap[b]?
  ownd : ∀ κ i κ' i' b, G.own κ i b → G.own κ' i' b → κ = κ' ∧ i = i'
  own0 : ∀ κ i b, G.own κ i b → (E.w0.heap.size ≤ b ∨ E.ob b) ∧ b < w.heap.size
  size : E.w0.heap.size ≤ w.heap.size
  os : w.os = E.w0.os
  tape : w.tape = E.w0.tape
  out : w.output = E.w0.output
  pbf : ∀ k, k < E.np → G.bm k = E.pb k

def Rel (E : Env) (st : St) (a : Act) (w : World) : Prop := ∃ G, RelG E G st a w

/-! ### monotony -/
theorem spareB_lt {v : Value} {b : Nat} (h : spareB v = some b) : ∃ a n cp, v = .slice (some a) n cp ∧ n < cp ∧ a.block = b := by
  cases v with
  | slice A n cp =>
    cases A with
    | none => simp [spareB] at h
    | some a =>
      simp only [spareB] at h
      split at h
      · exact ⟨a, n, cp, rfl, by assumption, by simpa using h⟩
      · simp at h
  | _ => simp [spareB] at h

theorem CapOK.mono {w w' : World} {F F' : Fz} {wd : Nat} {v : Value} (h : CapOK w F wd v)
    (hb : ∀ b, spareB v = some b → w'.heap[b]? = w.heap[b]?) (hF : ∀ b, spareB v = some b → ∀ o, F' b o → F b o) : CapOK w' F' wd v := by
  obtain ⟨A, n, cp, rfl, hle, h⟩ := h
  refine ⟨A, n, cp, rfl, hle, ?_⟩
  rcases h with h | ⟨b, o, cur, t, rfl, h1, h2, h3⟩
  · exact .inl h
  · by_cases hlt : n < cp
    · have hs : spareB (.slice (some ⟨b, o, none⟩) n cp) = some b := by simp [spareB, hlt]
      exact .inr ⟨b, o, cur, t, rfl, (hb b hs).trans h1, h2, fun j hj hj' hf => h3 j hj hj' (hF b hs _ hf)⟩
    · exact .inl (by omega)

theorem CapOK.block_lt {w : World} {F : Fz} {wd : Nat} {v : Value} (h : CapOK w F wd v) {b : Nat} (hs : spareB v = some b) : b < w.heap.size := by
  obtain ⟨A, n, cp, rfl, hle, h⟩ := h
  obtain ⟨a, n', cp', he, hlt, rfl⟩ := spareB_lt hs
  obtain ⟨rfl, rfl, rfl⟩ : A = some a ∧ n = n' ∧ cp = cp' := by simpa using he
  rcases h with h | ⟨b, o, cur, t, hA, h1, h2, h3⟩
  · omega
  · obtain rfl : a = ⟨b, o, none⟩ := by simpa using hA
    exact (Array.getElem?_eq_some_iff.1 h1).1

theorem ACR.mono {F F' : Fz} {bm bm' : Nat → Nat} {own own' : Nat → Prop} {w w' : World} {ac : AC} {u : Value} (h : ACR F bm own w ac u)
    (hF : ∀ b o, F b o → F' b o) (hc : ∀ b o, F b o → w'.cell? ⟨b, o, none⟩ = w.cell? ⟨b, o, none⟩)
    (hbm : ∀ k, ac.ref k → bm' k = bm k) (hown : ∀ b, own b → own' b)
    (hcap : ac.cap = true → ∀ b, spareB u = some b → b < w.heap.size → w'.heap[b]? = w.heap[b]? ∧ ∀ o, F' b o → F b o) : ACR F' bm' own' w' ac u := by
  cases ac with
  | v d c o =>
    simp only [ACR] at h ⊢
    obtain ⟨B, h1, h2, h3⟩ := h
    refine ⟨B, Rd.mono hF hc d u B h1, fun ho => ⟨(h2 ho).1, fun b hb => hown b ((h2 ho).2.1 b hb), fun hc' b hb => hown b ((h2 ho).2.2 hc' b hb)⟩, fun hcc => ?_⟩
    obtain ⟨wd, es, rfl, hk⟩ := h3 hcc
    refine ⟨wd, es, rfl, hk.mono (fun b hb => (hcap (by simpa [AC.cap] using hcc) b hb (hk.block_lt hb)).1) (fun b hb => (hcap (by simpa [AC.cap] using hcc) b hb (hk.block_lt hb)).2)⟩
  | bp k off => simp only [ACR] at h ⊢; rw [hbm k rfl]; exact h
  | bs k n => simp only [ACR] at h ⊢; rw [hbm k rfl]; exact h

end Go.RF
