/- A logic over the walk in which memory is hidden, part 1: data as trees and how memory spells them. -/
import Derived.WalkKit
import Derived.Calls
import Derived.Orders
import Derived.Laws.Append
import Derived.Laws.AppendOwn
import Derived.ArgAppend
import Derived.Below
namespace Go.RF

/-- A datum as a tree; memory is hidden. -/
inductive D where
  | raw (v : Value)
  | sl (wd : Nat) (es : List (List D))
  | ptr (ds : List D)
  | fn (f : FuncId) (caps : List D)
  deriving Inhabited

abbrev Fz := Nat → Nat → Prop

/-- These values lie one behind the other from cell o of block b on, and are frozen. -/
def Lies (w : World) (F : Fz) (b o : Nat) (vs : List Value) : Prop :=
  ∀ j u, vs[j]? = some u → w.cell? ⟨b, o + j, none⟩ = some u ∧ F b (o + j)

mutual
def Rd (w : World) (F : Fz) : D → Value → List Nat → Prop
  | .raw u, v, B => v = u ∧ u.oneCell' = true ∧ B = []
  | .sl wd es, v, B => ∃ A cap, v = .slice A es.length cap ∧ es.length ≤ cap ∧ cap ≤ maxLen ∧ (∀ e ∈ es, e.length = wd) ∧
      ((es = [] ∧ B = []) ∨ ∃ b o vs B', A = some ⟨b, o, none⟩ ∧ B = b :: B' ∧ Lies w F b o vs ∧ RdRows w F es vs B')
  | .ptr ds, v, B => ∃ b o vs, v = .pointer (some ⟨b, o, none⟩) ∧ Lies w F b o vs ∧ RdL w F ds vs B
  | .fn f caps, v, B => ∃ vs : List Value, v = .func (.func f) #[] vs.toArray ∧ RdL w F caps vs B
def RdL (w : World) (F : Fz) : List D → List Value → List Nat → Prop
  | [], vs, B => vs = [] ∧ B = []
  | d :: ds, vs, B => ∃ u us B1 B2, vs = u :: us ∧ B = B1 ++ B2 ∧ Rd w F d u B1 ∧ RdL w F ds us B2
def RdRows (w : World) (F : Fz) : List (List D) → List Value → List Nat → Prop
  | [], vs, B => vs = [] ∧ B = []
  | e :: es, vs, B => ∃ v1 v2 B1 B2, vs = v1 ++ v2 ∧ B = B1 ++ B2 ∧ RdL w F e v1 B1 ∧ RdRows w F es v2 B2
end

theorem Lies.mono {w w' : World} {F F' : Fz} {b o : Nat} {vs : List Value} (h : Lies w F b o vs)
    (hF : ∀ b o, F b o → F' b o) (hc : ∀ b o, F b o → w'.cell? ⟨b, o, none⟩ = w.cell? ⟨b, o, none⟩) : Lies w' F' b o vs := by
  intro j u hu
  obtain ⟨h1, h2⟩ := h j u hu
  exact ⟨(hc _ _ h2).trans h1, hF _ _ h2⟩

mutual
theorem Rd.mono {w w' : World} {F F' : Fz} (hF : ∀ b o, F b o → F' b o) (hc : ∀ b o, F b o → w'.cell? ⟨b, o, none⟩ = w.cell? ⟨b, o, none⟩) :
    ∀ (d : D) (v : Value) (B : List Nat), Rd w F d v B → Rd w' F' d v B
  | .raw u, v, B, h => by simpa only [Rd] using h
  | .sl wd es, v, B, h => by
    simp only [Rd] at h ⊢
    obtain ⟨A, cap, h1, h2, h3, h4, h5⟩ := h
    refine ⟨A, cap, h1, h2, h3, h4, ?_⟩
    rcases h5 with h5 | ⟨b, o, vs, B', hA, hB, hl, hr⟩
    · exact .inl h5
    · exact .inr ⟨b, o, vs, B', hA, hB, hl.mono hF hc, RdRows.mono hF hc es vs B' hr⟩
  | .ptr ds, v, B, h => by
    simp only [Rd] at h ⊢
    obtain ⟨b, o, vs, h1, h2, h3⟩ := h
    exact ⟨b, o, vs, h1, h2.mono hF hc, RdL.mono hF hc ds vs B h3⟩
  | .fn f caps, v, B, h => by
    simp only [Rd] at h ⊢
    obtain ⟨vs, h1, h2⟩ := h
    exact ⟨vs, h1, RdL.mono hF hc caps vs B h2⟩
theorem RdL.mono {w w' : World} {F F' : Fz} (hF : ∀ b o, F b o → F' b o) (hc : ∀ b o, F b o → w'.cell? ⟨b, o, none⟩ = w.cell? ⟨b, o, none⟩) :
    ∀ (ds : List D) (vs : List Value) (B : List Nat), RdL w F ds vs B → RdL w' F' ds vs B
  | [], vs, B, h => by simpa only [RdL] using h
  | d :: ds, vs, B, h => by
    simp only [RdL] at h ⊢
    obtain ⟨u, us, B1, B2, h1, h2, h3, h4⟩ := h
    exact ⟨u, us, B1, B2, h1, h2, Rd.mono hF hc d u B1 h3, RdL.mono hF hc ds us B2 h4⟩
theorem RdRows.mono {w w' : World} {F F' : Fz} (hF : ∀ b o, F b o → F' b o) (hc : ∀ b o, F b o → w'.cell? ⟨b, o, none⟩ = w.cell? ⟨b, o, none⟩) :
    ∀ (es : List (List D)) (vs : List Value) (B : List Nat), RdRows w F es vs B → RdRows w' F' es vs B
  | [], vs, B, h => by simpa only [RdRows] using h
  | e :: es, vs, B, h => by
    simp only [RdRows] at h ⊢
    obtain ⟨v1, v2, B1, B2, h1, h2, h3, h4⟩ := h
    exact ⟨v1, v2, B1, B2, h1, h2, RdL.mono hF hc e v1 B1 h3, RdRows.mono hF hc es v2 B2 h4⟩
end

theorem RdL.length {w : World} {F : Fz} : ∀ {ds : List D} {vs : List Value} {B : List Nat}, RdL w F ds vs B → vs.length = ds.length
  | [], vs, B, h => by simp only [RdL] at h; simp [h.1]
  | d :: ds, vs, B, h => by
    simp only [RdL] at h
    obtain ⟨u, us, B1, B2, rfl, _, _, h4⟩ := h
    simp [RdL.length h4]

theorem RdL.append {w : World} {F : Fz} : ∀ {ds ds' : List D} {vs vs' : List Value} {B B' : List Nat}, RdL w F ds vs B → RdL w F ds' vs' B' →
    RdL w F (ds ++ ds') (vs ++ vs') (B ++ B')
  | [], ds', vs, vs', B, B', h, h' => by simp only [RdL] at h; obtain ⟨rfl, rfl⟩ := h; simpa using h'
  | d :: ds, ds', vs, vs', B, B', h, h' => by
    simp only [RdL] at h
    obtain ⟨u, us, B1, B2, rfl, rfl, h3, h4⟩ := h
    simp only [List.cons_append, RdL]
    exact ⟨u, us ++ vs', B1, B2 ++ B', rfl, by simp, h3, RdL.append h4 h'⟩

theorem RdRows.append {w : World} {F : Fz} : ∀ {es es' : List (List D)} {vs vs' : List Value} {B B' : List Nat}, RdRows w F es vs B → RdRows w F es' vs' B' →
    RdRows w F (es ++ es') (vs ++ vs') (B ++ B')
  | [], es', vs, vs', B, B', h, h' => by simp only [RdRows] at h; obtain ⟨rfl, rfl⟩ := h; simpa using h'
  | e :: es, es', vs, vs', B, B', h, h' => by
    simp only [RdRows] at h
    obtain ⟨v1, v2, B1, B2, rfl, rfl, h3, h4⟩ := h
    simp only [List.cons_append, RdRows]
    exact ⟨v1, v2 ++ vs', B1, B2 ++ B', by simp, by simp, h3, RdRows.append h4 h'⟩

theorem RdRows.length {w : World} {F : Fz} {wd : Nat} : ∀ {es : List (List D)} {vs : List Value} {B : List Nat}, RdRows w F es vs B → (∀ e ∈ es, e.length = wd) →
    vs.length = es.length * wd
  | [], vs, B, h, _ => by simp only [RdRows] at h; simp [h.1]
  | e :: es, vs, B, h, hw => by
    simp only [RdRows] at h
    obtain ⟨v1, v2, B1, B2, rfl, rfl, h3, h4⟩ := h
    have h5 := RdRows.length h4 (fun e he => hw e (List.mem_cons_of_mem _ he))
    have h6 := RdL.length h3
    have h7 := hw e List.mem_cons_self
    simp [h5, h6, h7, Nat.add_mul, Nat.add_comm]

theorem RdL.one {w : World} {F : Fz} : ∀ {ds : List D} {vs : List Value} {B : List Nat}, RdL w F ds vs B → ∀ u ∈ vs, u.oneCell' = true
  | [], vs, B, h => by simp only [RdL] at h; simp [h.1]
  | d :: ds, vs, B, h => by
    simp only [RdL] at h
    obtain ⟨u, us, B1, B2, rfl, rfl, h3, h4⟩ := h
    intro x hx
    rcases List.mem_cons.1 hx with rfl | hx
    · cases d <;> simp only [Rd] at h3
      · obtain ⟨rfl, h, _⟩ := h3; exact h
      · obtain ⟨A, cap, rfl, _⟩ := h3; rfl
      · obtain ⟨b, o, vs, rfl, _⟩ := h3; rfl
      · obtain ⟨vs, rfl, _⟩ := h3; rfl
    · exact RdL.one h4 x hx

theorem RdRows.one {w : World} {F : Fz} : ∀ {es : List (List D)} {vs : List Value} {B : List Nat}, RdRows w F es vs B → ∀ u ∈ vs, u.oneCell' = true
  | [], vs, B, h => by simp only [RdRows] at h; simp [h.1]
  | e :: es, vs, B, h => by
    simp only [RdRows] at h
    obtain ⟨v1, v2, B1, B2, rfl, rfl, h3, h4⟩ := h
    intro x hx
    rcases List.mem_append.1 hx with hx | hx
    · exact RdL.one h3 x hx
    · exact RdRows.one h4 x hx

theorem Lies.left {w : World} {F : Fz} {b o : Nat} {v1 v2 : List Value} (h : Lies w F b o (v1 ++ v2)) : Lies w F b o v1 := by
  intro j u hu
  have hj : j < v1.length := (List.getElem?_eq_some_iff.1 hu).1
  exact h j u (by rw [List.getElem?_append_left hj]; exact hu)
theorem Lies.right {w : World} {F : Fz} {b o : Nat} {v1 v2 : List Value} (h : Lies w F b o (v1 ++ v2)) : Lies w F b (o + v1.length) v2 := by
  intro j u hu
  have := h (v1.length + j) u (by rw [List.getElem?_append_right (by omega)]; simpa using hu)
  rwa [← Nat.add_assoc] at this
theorem Lies.append {w : World} {F : Fz} {b o : Nat} {v1 v2 : List Value} (h1 : Lies w F b o v1) (h2 : Lies w F b (o + v1.length) v2) : Lies w F b o (v1 ++ v2) := by
  intro j u hu
  by_cases hj : j < v1.length
  · rw [List.getElem?_append_left hj] at hu; exact h1 j u hu
  · rw [List.getElem?_append_right (by omega)] at hu
    have := h2 (j - v1.length) u hu
    rwa [show o + v1.length + (j - v1.length) = o + j by omega] at this

/-- The element at an index of a row. -/
theorem RdRows.at_ {w : World} {F : Fz} {wd : Nat} : ∀ {es : List (List D)} {vs : List Value} {B : List Nat} {b o : Nat}, RdRows w F es vs B → (∀ e ∈ es, e.length = wd) →
    Lies w F b o vs → ∀ (i : Nat) (h : i < es.length), ∃ us B', Lies w F b (o + i * wd) us ∧ RdL w F es[i] us B' ∧ (∀ x ∈ B', x ∈ B) ∧ (B.Nodup → B'.Nodup)
  | [], vs, B, b, o, h, _, _, i, hi => by simp at hi
  | e :: es, vs, B, b, o, h, hw, hl, i, hi => by
    simp only [RdRows] at h
    obtain ⟨v1, v2, B1, B2, rfl, rfl, h3, h4⟩ := h
    have h6 := RdL.length h3
    have h7 := hw e List.mem_cons_self
    cases i with
    | zero => exact ⟨v1, B1, by simpa using hl.left, h3, fun x hx => by simp [hx], fun h => (List.nodup_append.1 h).1⟩
    | succ i =>
      obtain ⟨us, B', k1, k2, k3, k4⟩ := RdRows.at_ h4 (fun e he => hw e (List.mem_cons_of_mem _ he)) hl.right i (by simpa using hi)
      refine ⟨us, B', ?_, k2, fun x hx => by simp [k3 x hx], fun h => k4 (List.nodup_append.1 h).2.1⟩
      rw [h6, h7, show o + wd + i * wd = o + (i + 1) * wd by rw [Nat.add_mul]; omega] at k1
      exact k1
end Go.RF
