/- A logic over the walk in which memory is hidden, part 11: struct literals. -/
import Derived.Test.YtmahppdampmpfaaRF10
set_option linter.unusedVariables false
namespace Go.RF
open Go.RowKit (Below)

theorem foldl_lay (vs : List Value) : ∀ (k off : Nat) (cs : List Value), off + k + vs.length ≤ cs.length →
    (vs.zipIdx k).foldl (fun (c : Array Value) (p : Value × Nat) => c.setIfInBounds (off + p.2) p.1) cs.toArray = (spl (off + k) vs cs).toArray := by
  induction vs with
  | nil => intro k off cs h; rw [spl_eq _ _ _ h]; simp
  | cons v vs ih =>
    intro k off cs h
    simp only [List.length_cons] at h
    simp only [List.zipIdx_cons, List.foldl_cons, List.setIfInBounds_toArray]
    rw [ih (k + 1) off (cs.set (off + k) v) (by simp; omega)]
    congr 1
    apply List.ext_getElem?
    intro i
    rw [spl_at _ _ _ _ (by simp; omega), spl_at _ _ _ _ (by simp; omega)]
    simp only [List.length_cons]
    by_cases h1 : off + (k + 1) ≤ i ∧ i < off + (k + 1) + vs.length
    · rw [if_pos h1, if_pos (by omega), show i - (off + k) = (i - (off + (k + 1))) + 1 by omega, List.getElem?_cons_succ]
    · rw [if_neg h1]
      by_cases h2 : i = off + k
      · subst h2
        rw [if_pos (by omega), Nat.sub_self, List.getElem?_set_self (by omega)]; rfl
      · rw [if_neg (by omega), List.getElem?_set_ne (by omega)]

theorem fill_one (place : Nat → Option (Nat × Nat)) (i off size : Nat) (hp : place i = some (off, size)) (u : Value) (vals cs : List Value) (rest : List (Nat × Value)) (hu : u.cells = vals.toArray) (hs : vals.length = size)
    (hl : off + size ≤ cs.length) : Instr.fill place cs.toArray ((i, u) :: rest) = Instr.fill place (spl off vals cs).toArray rest := by
  have h := foldl_lay vals 0 off cs (by omega)
  simp only [Instr.fill, hp, hu, List.size_toArray, hs]
  rw [if_neg (by simp; omega)]
  congr 1
  rw [← Array.foldl_toList]
  simpa using h

/-- The width that the cell at this place bears, if it is a slice's. -/
def wdAt (acs : List AC) (i : Nat) : Nat :=
  match acs[i]? with
  | some (.v (.sl wd _) _ _) => wd
  | _ => 0
/-- Operands laid into a row of cells. -/
def acqs (place : Nat → Option (Nat × Nat)) : List (Nat × AV) → List AC → List (Nat × Operand) → Option (List AC × List (Nat × AV))
  | m, acc, [] => some (acc, m)
  | m, acc, (i, x) :: r => match place i with
    | none => none
    | some (off, size) => match acq true (wdAt acc off) m x with
      | none => none
      | some (v, m') => if v.acs.length = size ∧ off + size ≤ acc.length then acqs place m' (spl off v.acs acc) r else none

theorem acqs_taken {E : Env} {place : Nat → Option (Nat × Nat)} {a : Act} {w : World} : ∀ (parts : List (Nat × Operand)) {G : Gh} {m0 m m' : List (Nat × AV)} {acc acs : List AC} {vals : List Value} {S : Nat → Nat → Prop} {src : Nat → Option (Nat × Nat)},
    RelG E G ⟨m0⟩ a w → Taken G w m0 m acc vals S src → acqs place m acc parts = some (acs, m') →
    ∃ vals' S' src', Taken G w m0 m' acs vals' S' src' ∧ Instr.fill place vals.toArray (parts.map fun p => (p.1, a.eval p.2)) = some vals'.toArray ∧ acs.length = acc.length
  | [], G, m0, m, m', acc, acs, vals, S, src, h, t, hx => by
    obtain ⟨rfl, rfl⟩ : acc = acs ∧ m = m' := by simpa [acqs] using hx
    exact ⟨vals, S, src, t, rfl, rfl⟩
  | (i, x) :: r, G, m0, m, m', acc, acs, vals, S, src, h, t, hx => by
    simp only [acqs] at hx
    split at hx
    · simp at hx
    · rename_i off size hp
      split at hx
      · simp at hx
      · rename_i v m1 hq
        split at hx
        · rename_i hc
          have h1 := (t.facts h).1
          obtain ⟨vals2, S2, src2, t2, hu⟩ := acq_taken h1 hq
          obtain ⟨hcl, _⟩ := cells_of h1 t2 hu
          obtain ⟨S3, src3, t3⟩ := Taken.spl h t t2 off (by omega)
          obtain ⟨vals', S', src', k1, k2, k3⟩ := acqs_taken r h t3 hx
          refine ⟨vals', S', src', k1, ?_, by rw [k3, spl_length]⟩
          rw [List.map_cons, fill_one place i off size hp _ vals2 vals _ hcl (by rw [t2.len]; exact hc.1) (by rw [t.len]; exact hc.2)]
          exact k2
        · simp at hx

/-! ### structs -/
/-- Where the fields of a struct type lie. -/
def sfs (P : Program) (t : TypeId) : Option (List (Nat × Nat)) :=
  match P.underlying t with
  | some (.struct fs) => fs.toList.mapM (fun f => (P.info? f.type).map fun i => (f.offset, i.size))
  | _ => none

theorem op_build {E : Env} {m m' : List (Nat × AV)} {o : Oper} {t : TypeId} {parts : Array (Nat × Operand)} {d : Nat} {zs acs : List AC} {pl : List (Nat × Nat)} (ho : o.op = .build t parts) (hd : o.dst = some d) (hlt : d < E.nt)
    (hp : sfs E.P t = some pl) (hz : zi E.P t = some zs) (hx : acqs (fun i => pl[i]?) m zs parts.toList = some (acs, m')) : OpSt E m o (put m' (3 * d) (.val (.agg acs))) := by
  intro a w ⟨G, h⟩
  obtain ⟨i, z, hi, hzz, ht⟩ := zi_taken hz G w m
  obtain ⟨vals', S', src', k1, k2, k3⟩ := acqs_taken parts.toList h ht hx
  have hb : E.P.built t (parts.map fun (i, x) => (i, a.eval x)).toList = some vals'.toArray := by
    unfold sfs at hp
    split at hp
    · rename_i fs hu
      unfold Program.built
      rw [hi, hu]
      simp only [hzz, hp]
      simpa using k2
    · simp at hp
  refine ⟨.agg vals'.toArray, ?_, ?_⟩
  · have := run_build (P := E.P) w t _ _ hb
    simp [execOp, ho, this, pure]
  · rw [hd]; exact h.place d hlt (.agg acs) _ k1 rfl
end Go.RF
