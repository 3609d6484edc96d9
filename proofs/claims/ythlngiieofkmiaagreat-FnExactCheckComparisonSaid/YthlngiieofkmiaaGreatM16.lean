/- The functions of this seat, as that machine runs them. -/
import Derived.Test.YthlngiieofkmiaaGreatM15
set_option linter.unusedVariables false
set_option linter.unusedSimpArgs false
namespace Go.Q
open Go
theorem over_tm {xs : List Tm} {i : Nat} (hi : i < xs.length) (w : Tm) : over i [over 0 [.int w.k,.int w.n,.str w.s,.sl (w.as.map Tm.row)] (rowAt (xs.map Tm.row) i)] (xs.map Tm.row) = (xs.set i w).map Tm.row := by
 rw [rowAt_map hi,Tm.row_eq]
 have e : over 0 [D.int w.k,.int w.n,.str w.s,.sl (w.as.map Tm.row)] [D.int xs[i].k,.int xs[i].n,.str xs[i].s,.sl (xs[i].as.map Tm.row)] = w.row := by rw [Tm.row_eq]; rfl
 rw [e,over_eq _ _ _ (by simp; omega),List.map_set,List.set_eq_take_append_cons_drop,if_pos (by simpa using hi)]
 simp
theorem tail_rows (j : Int) (p : List Int) : (((j :: p).map iRow).take ((j :: p).map iRow).length).drop (Int.toNat 1) = p.map iRow := by
 rw [List.take_length]; rfl
theorem over_last (xs : Rows) (r w : List D) (h : r.length = w.length) : over xs.length [over 0 w (rowAt (xs ++ [r]) xs.length)] (xs ++ [r]) = xs ++ [w] := by
 have e : rowAt (xs ++ [r]) xs.length = r := by simp [rowAt,List.getD]
 rw [e,over_eq 0 w r (by omega),over_eq _ _ _ (by simp)]
 simp [h]
def foI : Option (List Bnd) -> Rows -> List D
 | some l,_ => [.bool true,.sl (l.map Bnd.row)]
 | none,x => [.bool false,.sl x]
theorem strA_cons (x : StM) (l : List StM) (s : ByteArray) : strA (x :: l) s = if x.o = s then x.a :: strA l s else strA l s := by
 unfold strA
 rw [List.filter_cons]
 by_cases h : x.o = s <;> simp [h]
theorem strA_len (l : List StM) (s : ByteArray) : (strA l s).length <= l.length := by
 unfold strA
 rw [List.length_map]
 exact List.length_filter_le _ _
end Go.Q
namespace Go.Q
open Go
theorem rsB_cons (l : List Bnd) (x : ByteArray) (ns : List ByteArray) : rsB l (x :: ns) = match bnd l x with
 | some v => (x,v) :: rsB l ns
 | none => rsB l ns := by
 unfold rsB
 rw [List.filterMap_cons]
 cases bnd l x <;> rfl
theorem rsB_len (l : List Bnd) (ns : List ByteArray) : (rsB l ns).length <= ns.length := List.length_filterMap_le ..
def frR : Option Tm -> List D
 | some w => [.int w.k,.int w.n,.str w.s,.bool true,.sl (w.as.map Tm.row)]
 | none => [.int 0,.int 0,.str e0,.bool false,.sl []]
noncomputable def fiL (r : RuM) (u : Tm) : List Bnd := match mT r.l u [] with
 | some l => rsB l (srtN (srtN r.l.names))
 | none => []
def optZ : Option Nat -> Int
 | some i => (i : Int)
 | none => -1
theorem nodes_sub {m : Nat} (t a : Tm) (h : t.nodes <= m) (ha : a ∈ t.as) : a.nodes <= m := by
 have := mem_sum (f := Tm.nodes) ha
 have := Tm.nodes_eq t
 omega
theorem appG_ok60 {l : List Bnd} (hl : ∀ b ∈ l,b.2.nodes <= 60) {g : Gu} (h1 : g.l.nodes <= 60) (h2 : g.r.nodes <= 60) : (appG l g).ok := by
 have a1 := aS_nodesM (m := 60) (by decide) hl g.l
 have a2 := aS_nodesM (m := 60) (by decide) hl g.r
 exact ⟨by show (aS l g.l).nodes <= _; omega,by show (aS l g.r).nodes <= _; omega⟩
theorem bnd_mem' {l : List Bnd} {P : Tm -> Prop} (h : ∀ b ∈ l,P b.2) {s : ByteArray} {v : Tm} (hb : bnd l s = some v) : P v := by
 obtain ⟨b,h1,rfl⟩ := bnd_mem hb; exact h b h1
theorem rsB_mem {l : List Bnd} {P : Tm -> Prop} (h : ∀ b ∈ l,P b.2) (ns : List ByteArray) : ∀ b ∈ rsB l ns,P b.2 := fun b hb => by
 unfold rsB at hb
 obtain ⟨s,_,hs⟩ := List.mem_filterMap.1 hb
 cases hv : bnd l s with
 | none => rw [hv] at hs; simp at hs
 | some v =>
  rw [hv] at hs
  simp only [Option.map_some,Option.some.injEq] at hs
  subst hs
  exact bnd_mem' h hv
theorem fireR_eq (r : RuM) (u : Tm) : fireR r u = if ((mT r.l u []).isSome && r.g.all fun g => holds (appG (fiL r u) g)) = true then some (rW (aS (fiL r u) r.r)) else none := by
 unfold fireR fiL
 cases h : mT r.l u [] with
 | none => rfl
 | some l =>
  have hc : ∀ s,bnd (rsB l (srtN (srtN r.l.names))) s = bnd l s := rsB_match h
  have e : ∀ g,appG (rsB l (srtN (srtN r.l.names))) g = appG l g := fun g => appG_congr hc g
  simp only [Option.isSome_some,Bool.true_and,e,aS_congr hc]
end Go.Q
