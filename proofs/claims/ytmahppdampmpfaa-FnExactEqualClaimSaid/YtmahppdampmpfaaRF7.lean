/- A logic over the walk in which memory is hidden, part 7: loads. -/
import Derived.Test.YtmahppdampmpfaaRF6
set_option linter.unusedVariables false
namespace Go.RF
open Go.RowKit (Below)

def isAggD : TypeDesc → Bool
  | .struct _ | .array _ _ => true
  | _ => false
/-- Cells of a type, and whether its values are aggregates. -/
def ty (P : Program) (t : TypeId) : Option (Nat × Bool) :=
  match P.info? t, P.underlying t with
  | some i, some d => some (i.size, isAggD d)
  | _, _ => none
theorem ty_spec {P : Program} {t : TypeId} {n : Nat} {g : Bool} (h : ty P t = some (n, g)) : ∃ i d, P.info? t = some i ∧ P.underlying t = some d ∧ i.size = n ∧ isAggD d = g := by
  unfold ty at h
  split at h
  · rename_i i d h1 h2
    simp only [Option.some.injEq, Prod.mk.injEq] at h
    exact ⟨i, d, h1, h2, h.1, h.2⟩
  · simp at h

theorem add_lit (b o i : Nat) : (⟨b, o, none⟩ : Addr).add i = ⟨b, o + i, none⟩ := by unfold Addr.add; split <;> simp_all

theorem run_isAgg' {P : Program} {t : TypeId} {d : TypeDesc} (h : P.underlying t = some d) (w : World) : (isAgg t).run P w = .ok (isAggD d) w := by
  cases d <;> simp [isAgg, run_underlying h, isAggD, pure]

theorem run_loadVar' {P : Program} {t : TypeId} {n : Nat} {g : Bool} (h : ty P t = some (n, g)) (w : World) (b o : Nat) (vs : List Value) (hn : g = false → n = 1) (hl : vs.length = n)
    (hc : ∀ j u, vs[j]? = some u → w.cell? ⟨b, o + j, none⟩ = some u) :
    (loadVar t ⟨b, o, none⟩).run P w = .ok (if g then .agg vs.toArray else vs.getD 0 undef) w := by
  obtain ⟨i, d, h1, h2, h3, h4⟩ := ty_spec h
  have hls := run_loadCells_list (P := P) w ⟨b, o, none⟩ vs (fun j v hj => by rw [add_lit]; exact hc j v hj)
  cases g with
  | true =>
    rw [hl] at hls
    simp [loadVar, run_isAgg' h2, h4, sizeOf, typeInfo, h1, h3, hls, pure]
  | false =>
    have hn1 := hn rfl
    match vs, hl with
    | [u], hl =>
      have := hc 0 u rfl
      simp only [Nat.add_zero] at this
      simp [loadVar, run_isAgg' h2, h4, this]
    | [], hl => simp at hl; omega
    | _ :: _ :: _, hl => simp at hl; omega

/-- What stands in n cells from number i on. -/
def part (g : Bool) (n i : Nat) (cs : List AC) : V :=
  if g then .agg ((cs.drop i).take n) else .one (cs.getD i (.bp 0 0))

theorem part_acs {g : Bool} {n i : Nat} {cs : List AC} (hn : g = false → n = 1) (hl : i + n ≤ cs.length) : (part g n i cs).acs = (cs.drop i).take n := by
  cases g with
  | true => rfl
  | false =>
    have := hn rfl; subst this
    have hlt : i < cs.length := by omega
    simp only [part, Bool.false_eq_true, if_false, V.acs]
    rw [List.drop_eq_getElem_cons hlt, List.take_succ_cons, List.take_zero]
    simp [List.getD, hlt]

theorem getElem?_part {cs : List AC} {i n j : Nat} {ac : AC} (h : ((cs.drop i).take n)[j]? = some ac) : j < n ∧ cs[i + j]? = some ac := by
  rw [List.getElem?_take] at h
  split at h
  · rw [List.getElem?_drop] at h; exact ⟨by assumption, h⟩
  · simp at h

theorem part_vok {G : Gh} {w : World} {g : Bool} {n i : Nat} {cs : List AC} {val : Nat → Value} {own : Nat → Nat → Prop} (hn : g = false → n = 1) (hl : i + n ≤ cs.length)
    (h : ∀ j ac, cs[j]? = some ac → ACR G.F G.bm (own j) w ac (val j)) :
    VOK G w (part g n i cs) (if g then .agg ((List.range' 0 n).map fun j => val (i + j)).toArray else val i) (fun j => val (i + j)) (fun j => own (i + j)) := by
  refine ⟨?_, fun j ac hj => ?_⟩
  · cases g with
    | true =>
      simp only [part, if_true, VSh]
      have : ((cs.drop i).take n).length = n := by simp; omega
      rw [this]
    | false => simp [part, VSh]
  · rw [part_acs hn hl] at hj
    exact h _ _ (getElem?_part hj).2

theorem box_cells {E : Env} {G : Gh} {m : List (Nat × AV)} {a : Act} {w : World} (h : RelG E G ⟨m⟩ a w) {k : Nat} {cs : List AC} (hb : look m (3 * k + 1) = some (.val (.agg cs))) :
    ∀ j, j < cs.length → w.cell? ⟨G.bm k, j, none⟩ = some (G.val (3 * k + 1) j) := by
  intro j hj
  obtain ⟨cs', t, he, h1, _⟩ := h.boxes k _ hb
  obtain rfl : cs = cs' := by simpa using he
  rw [cell_of_row w _ j _ t (0, 0) h1]
  simp [hj]

theorem box_load {E : Env} {G : Gh} {m : List (Nat × AV)} {a : Act} {w : World} (h : RelG E G ⟨m⟩ a w) {t : TypeId} {n : Nat} {g : Bool} (ht : ty E.P t = some (n, g)) (hn : g = false → n = 1)
    {k off : Nat} {cs : List AC} (hb : look m (3 * k + 1) = some (.val (.agg cs))) (hl : off + n ≤ cs.length) :
    (loadVar t ⟨G.bm k, off, none⟩).run E.P w = .ok (if g then .agg ((List.range' 0 n).map fun j => G.val (3 * k + 1) (off + j)).toArray else G.val (3 * k + 1) off) w := by
  have hv : ((List.range' 0 n).map fun j => G.val (3 * k + 1) (off + j)).length = n := by simp
  rw [run_loadVar' ht w (G.bm k) off ((List.range' 0 n).map fun j => G.val (3 * k + 1) (off + j)) hn hv (fun j u hj => ?_)]
  · cases g with
    | true => rfl
    | false => have := hn rfl; subst this; simp
  · have hjn : j < n := by have := (List.getElem?_eq_some_iff.1 hj).1; simpa using this
    obtain rfl : G.val (3 * k + 1) (off + j) = u := by
      have e : ((List.range' 0 n).map fun j => G.val (3 * k + 1) (off + j))[j]? = some (G.val (3 * k + 1) (off + j)) := by simp [hjn]
      rw [e] at hj; simpa using hj
    exact box_cells h hb _ (by omega)

/-- n cells of box k on their way. -/
def acqB (tk : Bool) (g : Bool) (n : Nat) (m : List (Nat × AV)) (k off : Nat) : Option (V × List (Nat × AV)) :=
  match look m (3 * k + 1) with
  | some (.val (.agg cs)) => if off + n ≤ cs.length then (if tk then some (part g n off cs, clrB m k off n) else some ((part g n off cs).dr, m)) else none
  | _ => none

theorem acqB_taken {E : Env} {G : Gh} {m m' : List (Nat × AV)} {a : Act} {w : World} (h : RelG E G ⟨m⟩ a w) {tk g : Bool} {n k off : Nat} {v : V} {t : TypeId} (ht : ty E.P t = some (n, g)) (hn : g = false → n = 1)
    (hx : acqB tk g n m k off = some (v, m')) :
    ∃ vals S src u, Taken G w m m' v.acs vals S src ∧ VOf v vals u ∧ (loadVar t ⟨G.bm k, off, none⟩).run E.P w = .ok u w := by
  unfold acqB at hx
  split at hx
  · rename_i cs hb
    split at hx
    · rename_i hl
      have hpv := part_vok (G := G) (w := w) (g := g) hn hl (fun j ac hj => h.cells (3 * k + 1) _ hb trivial j ac hj)
      cases tk with
      | false =>
        obtain ⟨rfl, rfl⟩ : (part g n off cs).dr = v ∧ m = m' := by simpa using hx
        exact ⟨_, _, _, _, Taken.copy hpv, VOf.of (G := G) (w := w) ((V.dr_sh _).2 hpv.sh), box_load h ht hn hb hl⟩
      | true =>
        obtain ⟨rfl, rfl⟩ : part g n off cs = v ∧ clrB m k off n = m' := by simpa using hx
        refine ⟨(List.range' 0 (part g n off cs).acs.length).map fun j => G.val (3 * k + 1) (off + j), clrD m k off n, fun i => some (3 * k + 1, off + i), _, ⟨drop_clrB m k off n, by simp, fun i ac hi => ?_, fun i i' p _ _ e1 e2 => ?_⟩,
          VOf.of (G := G) (w := w) hpv.sh, box_load h ht hn hb hl⟩
        · have hlt : i < (part g n off cs).acs.length := (List.getElem?_eq_some_iff.1 hi).1
          rw [part_acs hn hl] at hi
          obtain ⟨hin, hi'⟩ := getElem?_part hi
          exact ⟨⟨rfl, by omega, by omega, cs, hb⟩, by simp [List.getD, hlt], _, hb, trivial, hi'⟩
        · simp only [Option.some.injEq] at e1 e2
          rw [← e1] at e2
          simp at e2; omega
    · simp at hx
  · simp at hx

/-- A load out of a box. -/
theorem op_load_box {E : Env} {m m' : List (Nat × AV)} {o : Oper} {x : Operand} {t : TypeId} {n : Nat} {g tk : Bool} {d k off wd : Nat} {v : V} (ho : o.op = .load t x) (hd : o.dst = some d) (hlt : d < E.nt)
    (hx : opd wd m x = some (.one (.bp k off))) (ht : ty E.P t = some (n, g)) (hn : g = false → n = 1) (hb : acqB tk g n m k off = some (v, m')) : OpSt E m o (put m' (3 * d) (.val v)) := by
  intro a w ⟨G, h⟩
  obtain ⟨val, own, hs, hc⟩ := opd_ok h hx
  have he : a.eval x = .pointer (some ⟨G.bm k, off, none⟩) := hs.trans (hc 0 _ rfl)
  obtain ⟨vals, S, src, u, h1, h2, h3⟩ := acqB_taken h ht hn hb
  refine ⟨u, ?_, ?_⟩
  · simp [execOp, ho, Instr.loadAt, Instr.sureAddr, he, h3, pure]
  · rw [hd]; exact h.place d hlt v u h1 h2

/-! ### pointers into frozen memory -/
def dv (d : D) : AC := match d with
  | .raw u => .v (.raw u) false true
  | d => .v d false false
theorem dv_acr {F : Fz} {bm : Nat → Nat} {own : Nat → Prop} {w : World} {d : D} {u : Value} {B : List Nat} (h : Rd w F d u B) : ACR F bm own w (dv d) u := by
  cases d with
  | raw x => exact ⟨B, h, fun _ => by simp only [Rd] at h; simp [h.2.2], fun h => by simp at h⟩
  | _ => exact ⟨B, h, fun h => by simp at h, fun h => by simp at h⟩
theorem dv_dr (d : D) : dr (dv d) = dv d := by cases d <;> rfl

theorem RdL.at_ {w : World} {F : Fz} : ∀ {ds : List D} {vs : List Value} {B : List Nat}, RdL w F ds vs B → ∀ {i : Nat} {d : D}, ds[i]? = some d → ∃ u B', vs[i]? = some u ∧ Rd w F d u B'
  | [], vs, B, h, i, d, hi => by simp at hi
  | d :: ds, vs, B, h, i, d', hi => by
    simp only [RdL] at h
    obtain ⟨u, us, B1, B2, rfl, rfl, h3, h4⟩ := h
    cases i with
    | zero => obtain rfl : d = d' := by simpa using hi
              exact ⟨u, B1, rfl, h3⟩
    | succ i => obtain ⟨u', B', k1, k2⟩ := RdL.at_ h4 (i := i) (d := d') (by simpa using hi)
                exact ⟨u', B', by simpa using k1, k2⟩

theorem RdL.drop_ {w : World} {F : Fz} : ∀ {ds : List D} {vs : List Value} {B : List Nat} (i : Nat), RdL w F ds vs B → ∃ B', RdL w F (ds.drop i) (vs.drop i) B'
  | ds, vs, B, 0, h => ⟨B, h⟩
  | [], vs, B, i + 1, h => by simp only [RdL] at h; exact ⟨[], by simp [RdL, h.1]⟩
  | d :: ds, vs, B, i + 1, h => by
    simp only [RdL] at h
    obtain ⟨u, us, B1, B2, rfl, rfl, h3, h4⟩ := h
    exact RdL.drop_ i h4
theorem RdL.take_ {w : World} {F : Fz} : ∀ {ds : List D} {vs : List Value} {B : List Nat} (i : Nat), RdL w F ds vs B → ∃ B', RdL w F (ds.take i) (vs.take i) B'
  | ds, vs, B, 0, h => ⟨[], by simp [RdL]⟩
  | [], vs, B, i + 1, h => by simp only [RdL] at h; exact ⟨[], by simp [RdL, h.1]⟩
  | d :: ds, vs, B, i + 1, h => by
    simp only [RdL] at h
    obtain ⟨u, us, B1, B2, rfl, rfl, h3, h4⟩ := h
    obtain ⟨B', h5⟩ := RdL.take_ i h4
    simp only [List.take_succ_cons, RdL]
    exact ⟨B1 ++ B', u, _, B1, B', rfl, rfl, h3, h5⟩

theorem ptr_of {E : Env} {G : Gh} {m : List (Nat × AV)} {a : Act} {w : World} (h : RelG E G ⟨m⟩ a w) {wd : Nat} {x : Operand} {ds : List D} {c o : Bool}
    (hx : opd wd m x = some (.one (.v (.ptr ds) c o))) : ∃ b off vs B, a.eval x = .pointer (some ⟨b, off, none⟩) ∧ Lies w G.F b off vs ∧ RdL w G.F ds vs B := by
  obtain ⟨val, own, hs, hc⟩ := opd_ok h hx
  obtain ⟨B, h1, _⟩ := hc 0 _ rfl
  simp only [Rd] at h1
  obtain ⟨b, off, vs, h2, h3, h4⟩ := h1
  exact ⟨b, off, vs, B, hs.trans h2, h3, h4⟩

theorem op_load_ptr {E : Env} {m : List (Nat × AV)} {o : Oper} {x : Operand} {t : TypeId} {n : Nat} {g : Bool} {d wd : Nat} {ds : List D} {cc oo : Bool} (ho : o.op = .load t x) (hd : o.dst = some d) (hlt : d < E.nt)
    (hx : opd wd m x = some (.one (.v (.ptr ds) cc oo))) (ht : ty E.P t = some (n, g)) (hn : g = false → n = 1) (hl : n ≤ ds.length) :
    OpSt E m o (put m (3 * d) (.val (if g then .agg ((ds.take n).map dv) else .one (dv (ds.getD 0 default))))) := by
  intro a w ⟨G, h⟩
  obtain ⟨b, off, vs, B, he, h1, h2⟩ := ptr_of h hx
  have hlen := RdL.length h2
  have hvl : (vs.take n).length = n := by simp; omega
  have hrun := run_loadVar' ht w b off (vs.take n) hn hvl (fun j u hj => by
    rw [List.getElem?_take] at hj
    split at hj
    · exact (h1 j u hj).1
    · simp at hj)
  refine ⟨_, by simp only [execOp, ho, Instr.loadAt, Instr.sureAddr, he]; simp [hrun, pure]; rfl, ?_⟩
  rw [hd]
  have hcell : ∀ i, i < n → ACR G.F G.bm (fun _ => False) w (dv (ds.getD i default)) (vs.getD i undef) := by
    intro i hi
    have hi' : i < ds.length := by omega
    obtain ⟨u, B', k1, k2⟩ := RdL.at_ h2 (i := i) (d := ds.getD i default) (by simp [List.getD, hi'])
    have e : vs.getD i undef = u := by simp [List.getD, k1]
    rw [e]; exact dv_acr k2
  cases g with
  | true =>
    refine h.place d hlt _ _ (vals := vs.take n) (S := fun _ _ => False) (src := fun _ => none) ⟨Drop.refl m, ?_, fun i ac hi => ?_, fun i i' p _ _ h => by simp at h⟩ rfl
    · simp [V.acs]; omega
    · simp only [if_true, V.acs, List.getElem?_map] at hi
      obtain ⟨dd, h3, rfl⟩ := Option.map_eq_some_iff.1 hi
      have hin : i < n := by
        have := (List.getElem?_eq_some_iff.1 h3).1
        simp at this; omega
      rw [List.getElem?_take, if_pos hin] at h3
      have e1 : ds.getD i default = dd := by simp [List.getD, h3]
      have e2 : (vs.take n).getD i undef = vs.getD i undef := by simp [List.getD, hin]
      have := hcell i hin
      rw [e1] at this
      rw [e2]
      exact ⟨this, fun hc => by rw [← dv_dr, dr_cap] at hc; simp at hc⟩
  | false =>
    have hn1 := hn rfl; subst hn1
    refine h.place d hlt _ _ (vals := [vs.getD 0 undef]) (S := fun _ _ => False) (src := fun _ => none) ⟨Drop.refl m, rfl, fun i ac hi => ?_, fun i i' p _ _ h => by simp at h⟩ ?_
    · cases i with
      | zero =>
        obtain rfl : _ = ac := by simpa [V.acs] using hi
        exact ⟨by simpa using hcell 0 (by omega), fun hc => by rw [← dv_dr, dr_cap] at hc; simp at hc⟩
      | succ i => simp [V.acs] at hi
    · simp [VOf, List.getD]
end Go.RF
