/- A logic over the walk in which memory is hidden, part 24: a contract's call. -/
import Derived.Test.YtmahppdampmpfaaRF23
set_option linter.unusedVariables false
namespace Go.RF
open Go.RowKit (Below)

/-- An argument reads as this. -/
def InOK (W : World) (v : V) (u : Value) : Prop :=
  (∃ d B, v = .one (dv d) ∧ Rd W (fun b _ => b < W.heap.size) d u B) ∨ ∃ ds cs B, v = .agg (ds.map dv) ∧ u = .agg cs.toArray ∧ RdL W (fun b _ => b < W.heap.size) ds cs B

theorem dv_cap (d : D) : (dv d).cap = false := by cases d <;> rfl

theorem PC_bool {P : Program} {f : FuncId} {ins : List V} {b : Bool} (hPC : PC P f (ins.map .val) [.one (.v (.raw (.bool b)) false true)] []) (W : World) (args : Array Value) (hlen : args.size = ins.length)
    (hin : ∀ j v, ins[j]? = some v → InOK W v (args.getD j undef)) : Calls P f args W fun e W' => e = .returned (.bool b) ∧ Below W.heap.size W W' := by
  let F : Fz := fun b _ => b < W.heap.size
  let E : Env := { P := P, nt := ins.length, w0 := W, F0 := F, keep := fun b => b < W.heap.size, cb := fun _ => False, ob := fun _ => False, hk := fun b hb => hb, np := 0, pb := fun _ => 0 }
  let cellAt : Value → Nat → Value := fun u i => match u with
    | .agg cs => cs.getD i undef
    | u => u
  let G : Gh := { F := F, bm := fun _ => 0, own := fun _ _ _ => False, val := fun κ i => match ins[κ / 3]? with
    | some (.agg _) => cellAt (args.getD (κ / 3) undef) i
    | _ => args.getD (κ / 3) undef }
  have hvs : ∀ j v, ins[j]? = some v → VSh (G.val (3 * j)) 0 v (args.getD j undef) ∧ ∀ i ac, v.acs[i]? = some ac → ACR F (fun _ => 0) (fun _ => False) W ac (G.val (3 * j) i) ∧ ac.cap = false := by
    intro j v hj
    have e3 : 3 * j / 3 = j := by omega
    rcases hin j v hj with ⟨d, B, rfl, hr⟩ | ⟨ds, cs, B, rfl, hu, hr⟩
    · have hv : ∀ i, G.val (3 * j) i = args.getD j undef := fun i => by simp only [G, e3, hj]
      refine ⟨by simp only [VSh, hv], fun i ac hi => ?_⟩
      cases i with
      | succ i => simp [V.acs] at hi
      | zero =>
        obtain rfl : _ = ac := by simpa [V.acs] using hi
        rw [hv]
        exact ⟨dv_acr hr, dv_cap d⟩
    · have hv : ∀ i, G.val (3 * j) i = cs.toArray.getD i undef := fun i => by simp only [G, e3, hj, hu, cellAt]
      have hl := RdL.length hr
      refine ⟨?_, fun i ac hi => ?_⟩
      · simp only [VSh, hu, Value.agg.injEq]
        congr 1
        apply List.ext_getElem?
        intro i
        by_cases hi : i < cs.length
        · have hi' : i < ds.length := by omega
          simp [hv, hi, hi', Array.getD]
        · have hi' : ¬ i < ds.length := by omega
          simp [hi, hi']
      · simp only [V.acs, List.getElem?_map] at hi
        obtain ⟨d, hd, rfl⟩ := Option.map_eq_some_iff.1 hi
        obtain ⟨u, B', k1, k2⟩ := RdL.at_ hr hd
        have : cs.toArray.getD i undef = u := by
          have := (List.getElem?_eq_some_iff.1 k1)
          obtain ⟨hlt, he⟩ := this
          simp [Array.getD, hlt, he]
        rw [hv, this]
        exact ⟨dv_acr k2, dv_cap d⟩
  have hlk : ∀ {κ av}, look (inMap 0 (ins.map IN.val)) κ = some av → ∃ j v, κ = 3 * j ∧ ins[j]? = some v ∧ av = .val v := by
    intro κ av hκ
    obtain ⟨j, v, e1, e2, e3⟩ := look_inMap ins 0 κ av hκ
    exact ⟨j, v, by omega, e2, e3⟩
  have hrel : RelG E G ⟨inMap 0 (ins.map .val)⟩ { tmps := args, defers := [] } W := {
    nt := hlen
    dfs := rfl
    slots := fun s av hs hon => by
      obtain ⟨j, v, e1, e2, rfl⟩ := hlk hs
      obtain rfl : s = j := by omega
      exact (hvs s v e2).1
    boxes := fun k av hs => by obtain ⟨j, v, e1, _⟩ := hlk hs; omega
    cells := fun κ av hs hon i ac hi => by
      obtain ⟨j, v, rfl, e2, rfl⟩ := hlk hs
      exact ((hvs j v e2).2 i ac hi).1
    inj := fun k k' x x' hk => by obtain ⟨j, v, e1, _⟩ := hlk hk; omega
    capk := fun κ av hs hon i ac hi hc => by
      obtain ⟨j, v, rfl, e2, rfl⟩ := hlk hs
      rw [((hvs j v e2).2 i ac hi).2] at hc; simp at hc
    capd := fun κ av κ' av' hs hon hs' hon' i ac i' ac' hi hi' hc => by
      obtain ⟨j, v, rfl, e2, rfl⟩ := hlk hs
      rw [((hvs j v e2).2 i ac hi).2] at hc; simp at hc
    fsz := fun b o h => h
    f0 := fun _ _ => id
    f1 := fun _ _ => .inl
    fc := fun _ _ _ => rfl
    kept := fun _ _ => rfl
    ownd := fun _ _ _ _ _ h => h.elim
    own0 := fun _ _ _ h => h.elim
    size := Nat.le_refl _
    os := rfl
    tape := rfl
    out := rfl
    pbf := fun k hk => absurd hk (Nat.not_lt_zero k) }
  refine (hPC E G { tmps := args, defers := [] } W rfl rfl (by simp [E]) rfl rfl hrel).mono fun e W' hh => ?_
  obtain ⟨v, G', rfl, h2, _⟩ := hh
  have hl0 : look (outMap [V.one (.v (.raw (.bool b)) false true)] []) 0 = some (.val (.one (.v (.raw (.bool b)) false true))) := rfl
  have h3 := h2.slots 0 _ hl0 trivial
  obtain ⟨B, h4, _⟩ := h2.cells 0 _ hl0 trivial 0 _ rfl
  simp only [AVSh, VSh] at h3
  simp only [Rd] at h4
  have hv : v = .bool b := by
    have h3 : v = G'.val 0 0 := by simpa using h3
    rw [h3]; exact h4.1
  exact ⟨by rw [hv], ⟨h2.os, h2.tape, h2.out, h2.size, fun k hk => h2.kept k hk⟩⟩
end Go.RF
