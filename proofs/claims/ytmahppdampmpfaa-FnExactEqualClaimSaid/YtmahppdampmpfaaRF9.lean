/- A logic over the walk in which memory is hidden, part 9: zero values and boxed values. -/
import Derived.Test.YtmahppdampmpfaaRF8
set_option linter.unusedVariables false
namespace Go.RF
open Go.RowKit (Below)

/-- ys with xs laid over it from place n on. -/
def spl {α : Type} : Nat → List α → List α → List α
  | 0, [], cs => cs
  | 0, x :: xs, _ :: cs => x :: spl 0 xs cs
  | 0, _ :: _, [] => []
  | n + 1, xs, c :: cs => c :: spl n xs cs
  | _ + 1, _, [] => []
theorem spl_length {α : Type} : ∀ (n : Nat) (xs cs : List α), (spl n xs cs).length = cs.length
  | 0, [], cs => by simp [spl]
  | 0, x :: xs, _ :: cs => by simp [spl, spl_length 0 xs cs]
  | 0, _ :: _, [] => rfl
  | n + 1, xs, c :: cs => by simp [spl, spl_length n xs cs]
  | _ + 1, _, [] => rfl
theorem spl_eq {α : Type} : ∀ (n : Nat) (xs cs : List α), n + xs.length ≤ cs.length → spl n xs cs = cs.take n ++ xs ++ cs.drop (n + xs.length)
  | 0, [], cs, _ => by simp [spl]
  | 0, x :: xs, c :: cs, h => by
    have := spl_eq 0 xs cs (by simp at h ⊢; omega)
    simp only [spl, this, List.take_zero, List.nil_append, List.length_cons, Nat.zero_add, List.drop_succ_cons, List.cons_append]
  | 0, _ :: _, [], h => by simp at h
  | n + 1, xs, c :: cs, h => by
    have := spl_eq n xs cs (by simp at h ⊢; omega)
    simp only [spl, this, List.take_succ_cons, List.cons_append, List.cons.injEq, true_and]
    rw [show n + 1 + xs.length = (n + xs.length) + 1 by omega, List.drop_succ_cons]
  | n + 1, xs, [], h => by simp at h
theorem spl_at {α : Type} : ∀ (n : Nat) (xs cs : List α) (i : Nat), n + xs.length ≤ cs.length → (spl n xs cs)[i]? = if n ≤ i ∧ i < n + xs.length then xs[i - n]? else cs[i]?
  | 0, [], cs, i, h => by simp [spl]
  | 0, x :: xs, c :: cs, 0, h => by simp [spl]
  | 0, x :: xs, c :: cs, i + 1, h => by
    have := spl_at 0 xs cs i (by simp at h ⊢; omega)
    simp only [spl, List.getElem?_cons_succ, this]
    simp
  | 0, _ :: _, [], _, h => by simp at h
  | n + 1, xs, c :: cs, 0, h => by simp [spl]
  | n + 1, xs, c :: cs, i + 1, h => by
    have := spl_at n xs cs i (by simp at h ⊢; omega)
    simp only [spl, List.getElem?_cons_succ, this]
    have e : (n + 1 ≤ i + 1 ∧ i + 1 < n + 1 + xs.length) ↔ (n ≤ i ∧ i < n + xs.length) := by omega
    simp only [e, Nat.add_sub_add_right]
  | n + 1, xs, [], _, h => by simp at h

theorem Taken.nil {G : Gh} {w : World} {m : List (Nat × AV)} : Taken G w m m [] [] (fun _ _ => False) (fun _ => none) :=
  ⟨Drop.refl m, rfl, fun i ac hi => by simp at hi, fun i i' p h => by simp at h⟩

open Classical in
/-- A second group of cells is laid over (or behind) the first. -/
theorem Taken.spl {E : Env} {G : Gh} {m m1 m2 : List (Nat × AV)} {a : Act} {w : World} (h : RelG E G ⟨m⟩ a w) {acs acs2 : List AC} {vals vals2 : List Value} {S S2 : Nat → Nat → Prop} {src src2 : Nat → Option (Nat × Nat)}
    (t : Taken G w m m1 acs vals S src) (t2 : Taken { G with own := fun κ i b => G.own κ i b ∧ ¬ S κ i } w m1 m2 acs2 vals2 S2 src2) (off : Nat) (hl : off + acs2.length ≤ acs.length) :
    ∃ S3 src3, Taken G w m m2 (RF.spl off acs2 acs) (RF.spl off vals2 vals) S3 src3 := by
  have hlv : off + vals2.length ≤ vals.length := by rw [t.len, t2.len]; exact hl
  refine ⟨fun κ i => S κ i ∨ S2 κ i, fun i => if off ≤ i ∧ i < off + acs2.length then (match src2 (i - off) with
    | none => none
    | some (κ, j) => if ¬ S κ j ∧ ∃ av, look m κ = some av ∧ av.on ∧ av.acs[j]? = acs2[i - off]? then some (κ, j) else none) else src i, ⟨t.drop.trans t2.drop, by rw [spl_length, spl_length, t.len], fun i ac hi => ?_, fun i i' p hi hi' e1 e2 => ?_⟩⟩
  · rw [spl_at _ _ _ _ hl] at hi
    have hv : (RF.spl off vals2 vals).getD i undef = if off ≤ i ∧ i < off + acs2.length then vals2.getD (i - off) undef else vals.getD i undef := by
      rw [List.getD, spl_at _ _ _ _ hlv, t2.len]; split <;> rfl
    by_cases hc : off ≤ i ∧ i < off + acs2.length
    · rw [if_pos hc] at hi hv
      simp only [if_pos hc, hv]
      have h2 := t2.cell _ ac hi
      cases hs : src2 (i - off) with
      | none =>
        rw [hs] at h2
        simp only []
        exact h2
      | some p =>
        obtain ⟨κ, j⟩ := p
        rw [hs] at h2
        obtain ⟨k1, k2, av1, k3, k4, k5⟩ := h2
        have hd := t.drop κ
        rw [k3] at hd
        obtain ⟨av, l1, l2, _, _, l5⟩ := hd
        obtain ⟨ac0, l6, l7⟩ := l5 j ac k5
        by_cases hcc : ¬ S κ j ∧ ∃ av, look m κ = some av ∧ av.on ∧ av.acs[j]? = acs2[i - off]?
        · simp only [if_pos hcc]
          obtain ⟨_, av', n1, n2, n3⟩ := hcc
          exact ⟨.inr k1, k2, av', n1, n2, n3.trans hi⟩
        · simp only [if_neg hcc]
          have hac : ac = dr ac0 := by
            rcases l7 with ⟨rfl, hn⟩ | hh
            · exact absurd ⟨hn, av, l1, l2.1 k4, by rw [l6, hi]⟩ hcc
            · exact hh
          subst hac
          refine ⟨?_, fun hcap => by rw [dr_cap] at hcap; simp at hcap⟩
          rw [k2]
          exact dr_acr (h.cells κ av l1 (l2.1 k4) j ac0 l6)
    · rw [if_neg hc] at hi hv
      simp only [if_neg hc, hv]
      have h1 := t.cell i ac hi
      cases hs : src i with
      | none => rw [hs] at h1; exact h1
      | some p =>
        obtain ⟨κ, j⟩ := p
        rw [hs] at h1
        exact ⟨.inl h1.1, h1.2.1, h1.2.2⟩
  · rw [spl_length] at hi hi'
    by_cases hc : off ≤ i ∧ i < off + acs2.length
    · simp only [if_pos hc] at e1
      cases hs : src2 (i - off) with
      | none => rw [hs] at e1; simp at e1
      | some q =>
        obtain ⟨κ, j⟩ := q
        rw [hs] at e1
        simp only [] at e1
        split at e1
        · rename_i hcc
          obtain rfl : (κ, j) = p := by simpa using e1
          by_cases hc' : off ≤ i' ∧ i' < off + acs2.length
          · simp only [if_pos hc'] at e2
            cases hs' : src2 (i' - off) with
            | none => rw [hs'] at e2; simp at e2
            | some q' =>
              obtain ⟨κ', j'⟩ := q'
              rw [hs'] at e2
              simp only [] at e2
              split at e2
              · obtain ⟨rfl, rfl⟩ : κ' = κ ∧ j' = j := by simpa using e2
                have := t2.inj _ _ _ (by omega) (by omega) hs hs'
                omega
              · simp at e2
          · simp only [if_neg hc'] at e2
            have hlt : i' < acs.length := hi'
            have := t.cell i' _ (List.getElem?_eq_getElem hlt)
            rw [e2] at this
            exact absurd this.1 hcc.1
        · simp at e1
    · simp only [if_neg hc] at e1
      by_cases hc' : off ≤ i' ∧ i' < off + acs2.length
      · simp only [if_pos hc'] at e2
        cases hs' : src2 (i' - off) with
        | none => rw [hs'] at e2; simp at e2
        | some q' =>
          obtain ⟨κ', j'⟩ := q'
          rw [hs'] at e2
          simp only [] at e2
          split at e2
          · rename_i hcc
            obtain rfl : (κ', j') = p := by simpa using e2
            have := t.cell i _ (List.getElem?_eq_getElem hi)
            rw [e1] at this
            exact absurd this.1 hcc.1
          · simp at e2
      · simp only [if_neg hc'] at e2
        exact t.inj i i' p hi hi' e1 e2

/-! ### zero values -/
def wds (P : Program) : Nat → TypeId → List Nat
  | 0, _ => []
  | f + 1, t => match P.underlying t with
    | some (.struct fs) => fs.toList.flatMap fun x => wds P f x.type
    | some (.slice e) => [P.cellsOf e]
    | _ => [0]
def zip0 : List Value → List Nat → List AC
  | [], _ => []
  | v :: vs, [] => cC 0 v :: zip0 vs []
  | v :: vs, n :: ns => cC n v :: zip0 vs ns
/-- The zero value's cells. -/
def zi (P : Program) (t : TypeId) : Option (List AC) :=
  match P.info? t with
  | some i => match i.zero with
    | some z => if z.cells.all (·.oneCell') then some (zip0 z.cells.toList (wds P 20 t)) else none
    | none => none
  | none => none
theorem zip0_at : ∀ (vs : List Value) (ns : List Nat) (i : Nat) (ac : AC), (zip0 vs ns)[i]? = some ac → ∃ n v, vs[i]? = some v ∧ ac = cC n v
  | [], _, i, ac, h => by simp [zip0] at h
  | v :: vs, [], 0, ac, h => ⟨0, v, rfl, by simpa [zip0] using h.symm⟩
  | v :: vs, n :: ns, 0, ac, h => ⟨n, v, rfl, by simpa [zip0] using h.symm⟩
  | v :: vs, [], i + 1, ac, h => by
    obtain ⟨n, v', h1, h2⟩ := zip0_at vs [] i ac (by simpa [zip0] using h)
    exact ⟨n, v', by simpa using h1, h2⟩
  | v :: vs, n :: ns, i + 1, ac, h => by
    obtain ⟨n', v', h1, h2⟩ := zip0_at vs ns i ac (by simpa [zip0] using h)
    exact ⟨n', v', by simpa using h1, h2⟩
theorem zip0_length : ∀ (vs : List Value) (ns : List Nat), (zip0 vs ns).length = vs.length
  | [], _ => rfl
  | v :: vs, [] => by simp [zip0, zip0_length vs []]
  | v :: vs, n :: ns => by simp [zip0, zip0_length vs ns]

theorem zi_taken {P : Program} {t : TypeId} {zs : List AC} (hz : zi P t = some zs) (G : Gh) (w : World) (m : List (Nat × AV)) :
    ∃ i z, P.info? t = some i ∧ i.zero = some z ∧ Taken G w m m zs z.cells.toList (fun _ _ => False) (fun _ => none) := by
  unfold zi at hz
  split at hz
  · rename_i i hi
    split at hz
    · rename_i z hzz
      split at hz
      · rename_i hall
        obtain rfl : _ = zs := by simpa using hz
        refine ⟨i, z, hi, hzz, Drop.refl m, by rw [zip0_length], fun j ac hj => ?_, fun i i' p _ _ h => by simp at h⟩
        obtain ⟨n, v, h1, rfl⟩ := zip0_at _ _ _ _ hj
        have hv : v.oneCell' = true := by
          rw [Array.all_eq_true_iff_forall_mem] at hall
          exact hall v (Array.mem_toList_iff.1 (List.mem_of_getElem? h1))
        have e : z.cells.toList.getD j undef = v := by simp only [List.getD, h1, Option.getD_some]
        simp only [e]
        exact cC_acr G.F G.bm w n v hv
      · simp at hz
    · simp at hz
  · simp at hz

theorem zi_bp {P : Program} {t : TypeId} {zs : List AC} (hz : zi P t = some zs) (d : Nat) : ∀ ac ∈ zs, isBp d ac = false := by
  unfold zi at hz
  split at hz
  · split at hz
    · split at hz
      · obtain rfl : _ = zs := by simpa using hz
        intro ac hac
        obtain ⟨j, hj⟩ := List.getElem?_of_mem hac
        obtain ⟨n, v, _, rfl⟩ := zip0_at _ _ _ _ hj
        unfold cC; split <;> rfl
      · simp at hz
    · simp at hz
  · simp at hz

theorem op_alloc {E : Env} {m : List (Nat × AV)} {o : Oper} {t : TypeId} {d : Nat} {zs : List AC} (ho : o.op = .alloc t) (hd : o.dst = some d) (hlt : d < E.nt) (hnp : E.np ≤ d) (hz : zi E.P t = some zs) :
    OpOK E m o (put (put (forget d m) (3 * d + 1) (.val (.agg zs))) (3 * d) (.val (.one (.bp d 0)))) := by
  intro a w Q ⟨G, h⟩
  obtain ⟨i, z, hi, hzz, ht⟩ := zi_taken hz G w m
  refine wp_of_run (v := .pointer (some ⟨w.heap.size, 0, none⟩)) (w' := w.alloc (.cells z.cells t)) ?_ ?_
  · simp [execOp, ho, Instr.alloc, zeroValue, typeInfo, hi, hzz, newVar, newRow, pure]
  · rw [hd]
    have := h.newBox d hlt hnp zs t ht (zi_bp hz d)
    simpa using this

theorem oneCell_of_ACR {F : Fz} {bm : Nat → Nat} {own : Nat → Prop} {w : World} {ac : AC} {u : Value} (h : ACR F bm own w ac u) : u.oneCell' = true := by
  cases ac with
  | v d c o =>
    obtain ⟨B, h1, _⟩ := h
    have : RdL w F [d] [u] (B ++ []) := by simp only [RdL]; exact ⟨u, [], B, [], rfl, rfl, h1, rfl, rfl⟩
    exact this.one u (by simp)
  | bp k off => simp only [ACR] at h; subst h; rfl
  | bs k off => simp only [ACR] at h; subst h; rfl

theorem cells_of {E : Env} {G : Gh} {m m' : List (Nat × AV)} {a : Act} {w : World} (h : RelG E G ⟨m⟩ a w) {v : V} {u : Value} {vals : List Value} {S : Nat → Nat → Prop} {src : Nat → Option (Nat × Nat)}
    (t : Taken G w m m' v.acs vals S src) (hu : VOf v vals u) : u.cells = vals.toArray ∧ ∀ x ∈ vals, x.oneCell' = true := by
  obtain ⟨_, h2, _⟩ := t.facts h
  have hone : ∀ x ∈ vals, x.oneCell' = true := by
    intro x hx
    obtain ⟨j, hj⟩ := List.getElem?_of_mem hx
    have hlt : j < v.acs.length := by rw [← t.len]; exact (List.getElem?_eq_some_iff.1 hj).1
    have := oneCell_of_ACR (h2 j _ (List.getElem?_eq_getElem hlt))
    rwa [List.getD, hj] at this
  refine ⟨?_, hone⟩
  cases v with
  | one c =>
    have hl := t.len
    simp only [V.acs, List.length_cons, List.length_nil] at hl
    match vals, hl with
    | [x], _ =>
      simp only [VOf] at hu
      obtain rfl : u = x := hu
      have := hone u (by simp)
      cases u <;> first | rfl | simp [Value.oneCell'] at this
  | agg cs => simp only [VOf] at hu; subst hu; rfl

theorem op_box {E : Env} {m m' : List (Nat × AV)} {o : Oper} {t : TypeId} {x : Operand} {tk : Bool} {wd d : Nat} {v : V} (ho : o.op = .box t x) (hd : o.dst = some d) (hlt : d < E.nt) (hnp : E.np ≤ d)
    (hx : acq tk wd m x = some (v, m')) (hbp : v.acs.any (isBp d) = false) :
    OpOK E m o (put (put (forget d m') (3 * d + 1) (.val (.agg v.acs))) (3 * d) (.val (.one (.bp d 0)))) := by
  intro a w Q ⟨G, h⟩
  obtain ⟨vals, S, src, ht, hu⟩ := acq_taken h hx
  obtain ⟨hc, _⟩ := cells_of h ht hu
  refine wp_of_run (v := .pointer (some ⟨w.heap.size, 0, none⟩)) (w' := w.alloc (.cells vals.toArray t)) ?_ ?_
  · simp [execOp, ho, Instr.box, newVar, newRow, hc, pure]
  · rw [hd]
    refine h.newBox d hlt hnp v.acs t ht ?_
    simpa using hbp
end Go.RF
