/- A logic over the walk in which memory is hidden, part 23: arguments as trees. -/
import Derived.Test.YtmahppdampmpfaaRF22
import Derived.ChangeArms
import Derived.Carry
set_option linter.unusedVariables false
namespace Go.RF
open Go.RowKit (Below)

def ShpL (R : TypeId → List D → Prop) : List Field → List D → Prop
  | [], ds => ds = []
  | f :: fs, ds => ∃ d1 d2, ds = d1 ++ d2 ∧ R f.type d1 ∧ ShpL R fs d2
/-- Data of this type. -/
def Shp (P : Program) : Nat → TypeId → List D → Prop
  | 0, _, _ => False
  | f + 1, t, ds => match P.underlying t with
    | some .bool => ∃ b, ds = [.raw (.bool b)]
    | some (.int k) => ∃ n, ds = [.raw (.int k n)] ∧ (Lit.int k n).wf = true
    | some .string => ∃ s : ByteArray, ds = [.raw (.string s)] ∧ s.size ≤ maxLen
    | some (.slice e) => ∃ es, ds = [.sl (P.cellsOf e) es] ∧ es.length ≤ maxLen ∧ ∀ r ∈ es, Shp P f e r
    | some (.struct fs) => ShpL (Shp P f) fs.toList ds
    | _ => False
def lay (P : Program) (n : Nat) : List Field → Nat → Bool
  | [], i => i == n
  | f :: fs, i => f.offset == i && lay P n fs (i + P.cellsOf f.type)
/-- These types are plain ones, made of one another. -/
def plainB (P : Program) (S : List TypeId) : Bool :=
  S.all fun t => match P.underlying t with
    | some .bool | some (.int _) | some .string => P.cellsOf t == 1
    | some (.slice e) => S.contains e && decide (0 < P.cellsOf e) && P.cellsOf t == 1
    | some (.struct fs) => fs.toList.all (fun f => S.contains f.type) && lay P (P.cellsOf t) fs.toList 0
    | _ => false

section
variable {H : Type} {enc : TypeId × Value → H} {P : Program} {W : World} {sp : Nat → Bool}

theorem rdl_one {F : Fz} {v : Value} (h : v.oneCell' = true) : RdL W F [.raw v] [v] [] := by
  simp only [RdL, Rd]; exact ⟨v, [], [], [], rfl, rfl, ⟨rfl, h, rfl⟩, rfl, rfl⟩
theorem shp_fields {cs : List Value}
    (R : TypeId → List D → Prop) (F : Fz) : ∀ (fs : List Field) (i : Nat), lay P cs.length fs i = true →
    (∀ f ∈ fs, ∃ ds B, RdL W F ds ((cs.drop f.offset).take (P.cellsOf f.type)) B ∧ ds.length = P.cellsOf f.type ∧ R f.type ds) →
    ∃ ds B, RdL W F ds (cs.drop i) B ∧ ShpL R fs ds
  | [], i, hl, h => by
    simp only [lay, beq_iff_eq] at hl
    exact ⟨[], [], by rw [hl]; simp [RdL], rfl⟩
  | f :: fs, i, hl, h => by
    simp only [lay, Bool.and_eq_true, beq_iff_eq] at hl
    obtain ⟨ho, hl⟩ := hl
    obtain ⟨d1, B1, h1, h2, h3⟩ := h f (by simp)
    obtain ⟨d2, B2, h4, h5⟩ := shp_fields R F fs _ hl (fun f hf => h f (by simp [hf]))
    refine ⟨d1 ++ d2, B1 ++ B2, ?_, d1, d2, rfl, h3, h5⟩
    have := h1.append h4
    rw [ho] at this
    rw [← List.drop_drop] at this
    rwa [List.take_append_drop] at this

theorem shp_of_trod {S : List TypeId} (hS : plainB P S = true) : ∀ (fuel : Nat) (t : TypeId) (cs : List Value) (x : DataW H × List MemPlace), t ∈ S → DataW.trod enc P W 0 sp true fuel t cs = some x →
    ∃ ds B, RdL W (fun b _ => b < W.heap.size) ds cs B ∧ ds.length = P.cellsOf t ∧ Shp P fuel t ds
  | 0, t, cs, x, ht, h => by simp [DataW.trod] at h
  | fuel + 1, t, cs, x, ht, h => by
    have hp := List.all_eq_true.1 hS t ht
    have IH := fun t cs x => shp_of_trod hS fuel t cs x
    cases hu : P.underlying t with
    | none => rw [hu] at hp; simp at hp
    | some td =>
      rw [hu] at hp
      cases td with
      | bool =>
        obtain ⟨b, rfl, _⟩ := DataW.trod_bool hu h
        have hp : (P.cellsOf t == 1) = true := hp
        refine ⟨[.raw (.bool b)], [], rdl_one rfl, by simpa using (beq_iff_eq.1 hp).symm, ?_⟩
        simp only [Shp, hu]; exact ⟨b, rfl⟩
      | int k =>
        obtain ⟨n, rfl, _, hw⟩ := DataW.trod_int hu h
        have hp : (P.cellsOf t == 1) = true := hp
        refine ⟨[.raw (.int k n)], [], rdl_one rfl, by simpa using (beq_iff_eq.1 hp).symm, ?_⟩
        simp only [Shp, hu]; exact ⟨n, rfl, hw⟩
      | string =>
        obtain ⟨s, rfl, _, hs⟩ := DataW.trod_string hu h
        have hp : (P.cellsOf t == 1) = true := hp
        refine ⟨[.raw (.string s)], [], rdl_one rfl, by simpa using (beq_iff_eq.1 hp).symm, ?_⟩
        simp only [Shp, hu]; exact ⟨s, rfl, hs⟩
      | slice e =>
        simp only [Bool.and_eq_true, decide_eq_true_eq] at hp
        obtain ⟨⟨hpe, hpc⟩, hct⟩ := hp
        have hpe : e ∈ S := by simpa using hpe
        have hct : P.cellsOf t = 1 := beq_iff_eq.1 hct
        rcases DataW.trod_slice hu h with ⟨rfl, _⟩ | ⟨a, len, cap, elems, rest, n, hn, rfl, _, _, hlc, hcm, hel, hat, _⟩
        · refine ⟨[.sl (P.cellsOf e) []], [], ?_, by simp [hct], ?_⟩
          · simp only [RdL, Rd]
            exact ⟨_, [], [], [], rfl, rfl, ⟨none, 0, rfl, by simp, Nat.zero_le _, by simp, .inl (by simp)⟩, rfl, rfl⟩
          · simp only [Shp, hu]; exact ⟨[], rfl, Nat.zero_le _, by simp⟩
        · obtain rfl : n = fuel := by omega
          -- the rows, one by one
          have hrow : ∀ i, i < len → ∃ r vs B, (∀ j u, vs[j]? = some u → W.cell? (a.add (i * P.cellsOf e + j)) = some u) ∧ RdL W (fun b _ => b < W.heap.size) r vs B ∧ r.length = P.cellsOf e ∧ Shp P n e r := by
            intro i hi
            have h1 := hat i hi
            have hlt : i < elems.length := by omega
            rw [List.getElem?_eq_getElem hlt] at h1
            obtain ⟨vs, hvs, htr⟩ := Option.bind_eq_some_iff.1 h1
            obtain ⟨r, B, k1, k2, k3⟩ := IH e vs _ hpe htr
            refine ⟨r, vs, B, fun j u hj => ?_, k1, k2, k3⟩
            unfold World.cells? at hvs
            split at hvs
            · have hlen := mapM_some_length hvs
              have hjl : j < P.cellsOf e := by
                have := (List.getElem?_eq_some_iff.1 hj).1
                simpa [hlen] using this
              have := mapM_some_get hvs j j (by simp [hjl])
              rw [hj] at this
              rw [← this, Addr.add_add]
            · simp at hvs
          have hall : ∀ m, m ≤ len → ∃ es vs B, (∀ j u, vs[j]? = some u → W.cell? (a.add j) = some u) ∧ vs.length = m * P.cellsOf e ∧ es.length = m ∧ (∀ r ∈ es, r.length = P.cellsOf e ∧ Shp P n e r) ∧ RdRows W (fun b _ => b < W.heap.size) es vs B := by
            intro m
            induction m with
            | zero => intro _; exact ⟨[], [], [], by simp, by simp, rfl, by simp, by simp [RdRows]⟩
            | succ m ih =>
              intro hm
              obtain ⟨es, vs, B, q1, q2, q3, q4, q5⟩ := ih (by omega)
              obtain ⟨r, vs', B', k1, k2, k3, k4⟩ := hrow m (by omega)
              have hl' := RdL.length k2
              refine ⟨es ++ [r], vs ++ vs', B ++ (B' ++ []), fun j u hj => ?_, by simp [q2, hl', k3, Nat.succ_mul], by simp [q3], fun r' hr' => ?_, q5.append (by simp only [RdRows]; exact ⟨vs', [], B', [], by simp, rfl, k2, rfl, rfl⟩)⟩
              · by_cases hjl : j < vs.length
                · rw [List.getElem?_append_left hjl] at hj; exact q1 j u hj
                · rw [List.getElem?_append_right (by omega)] at hj
                  have := k1 _ u hj
                  rw [q2] at this
                  rw [← this]; congr 2
                  have : m * P.cellsOf e ≤ j := by omega
                  omega
              · rcases List.mem_append.1 hr' with h | h
                · exact q4 r' h
                · obtain rfl : r' = r := by simpa using h
                  exact ⟨k3, k4⟩
          obtain ⟨es, vs, B, q1, q2, q3, q4, q5⟩ := hall len (Nat.le_refl _)
          have hrd : ∃ B, Rd W (fun b _ => b < W.heap.size) (.sl (P.cellsOf e) es) (.slice (some a) len cap) B := by
            by_cases hz : len = 0
            · subst hz
              obtain rfl : es = [] := by simpa using q3
              exact ⟨[], by simp only [Rd]; exact ⟨some a, cap, rfl, Nat.zero_le _, hcm, by simp, .inl (by simp)⟩⟩
            · have hv0 : 0 < vs.length := by rw [q2]; exact Nat.mul_pos (by omega) hpc
              have hc0 := q1 0 vs[0] (by simp [hv0])
              have hsp : a.spot = none := by simpa [Addr.add] using World.cell?_spot hc0
              obtain ⟨b, o, s⟩ := a
              simp only [] at hsp
              subst hsp
              refine ⟨b :: B, ?_⟩
              simp only [Rd]
              refine ⟨some ⟨b, o, none⟩, cap, by rw [q3], by omega, hcm, fun e he => (q4 e he).1, .inr ⟨b, o, vs, B, rfl, rfl, fun j u hj => ?_, q5⟩⟩
              have := q1 j u hj
              rw [add_lit] at this
              refine ⟨this, ?_⟩
              simp only [World.cell?] at this
              rcases Nat.lt_or_ge b W.heap.size with hb | hb
              · exact hb
              · rw [Array.getElem?_eq_none hb] at this; simp at this
          obtain ⟨B', hrd⟩ := hrd
          refine ⟨[.sl (P.cellsOf e) es], B' ++ [], ?_, by simp [hct], ?_⟩
          · simp only [RdL]; exact ⟨_, [], B', [], rfl, rfl, hrd, rfl, rfl⟩
          · simp only [Shp, hu]; exact ⟨es, rfl, by omega, fun r hr => (q4 r hr).2⟩
      | struct fs =>
        simp only [Bool.and_eq_true] at hp
        obtain ⟨hp1, hp2⟩ := hp
        obtain ⟨xs, n, hn, _, hcl, hxl, hf⟩ := DataW.trod_struct hu h
        obtain rfl : n = fuel := by omega
        obtain ⟨ds, B, h1, h2⟩ := shp_fields (W := W) (cs := cs) (Shp P n) (fun b _ => b < W.heap.size) fs.toList 0 (by rw [hcl]; exact hp2) (fun f hfm => by
          obtain ⟨i, hi⟩ := List.getElem?_of_mem hfm
          have hi' : fs[i]? = some f := by simpa using hi
          have h3 := hf i f hi'
          have hlt : i < xs.length := by rw [hxl]; exact (Array.getElem?_eq_some_iff.1 hi').1
          rw [List.getElem?_eq_getElem hlt] at h3
          exact IH _ _ _ (by simpa using List.all_eq_true.1 hp1 f hfm) h3)
        refine ⟨ds, B, by simpa using h1, by have := RdL.length h1; simp at this; omega, ?_⟩
        simp only [Shp, hu]; exact h2
      | _ => simp at hp
end
end Go.RF
