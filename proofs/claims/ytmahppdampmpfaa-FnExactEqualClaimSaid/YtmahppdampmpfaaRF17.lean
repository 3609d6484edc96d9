/- A logic over the walk in which memory is hidden, part 17: entering and returning. -/
import Derived.Test.YtmahppdampmpfaaRF16
set_option linter.unusedVariables false
namespace Go.RF
open Go.RowKit (Below)

/-- A result on its way out. -/
def acqR (P : Program) (m : Mp) : ResultVar → Option (V × Mp)
  | .tmp t => acq true 0 m (.tmp t)
  | .cell p t => match opd 0 m (.tmp p), ty P t with
    | some (.one (.bp k off)), some (n, g) => if g = true ∨ n = 1 then acqB true g n m k off else none
    | _, _ => none
def acqRs (P : Program) : Mp → List ResultVar → Option (List V × Mp)
  | m, [] => some ([], m)
  | m, x :: r => match acqR P m x with
    | none => none
    | some (v, m') => match acqRs P m' r with
      | none => none
      | some (vs, m'') => some (v :: vs, m'')

def resOf (tmps : Array Value) : ResultVar → Sem Value
  | .tmp t => pure (tmps.getD t undef)
  | .cell a t => do loadVar t (← asAddr (tmps.getD a undef))

theorem acqB_agr {mv m m' : Mp} (h : Agr mv m) {tk g : Bool} {n k off : Nat} {v : V} (hx : acqB tk g n m k off = some (v, m')) :
    ∃ mv', acqB tk g n mv k off = some (v, mv') ∧ Agr mv' m' ∧ ∀ κ, κ % 3 = 2 → look mv' κ = look mv κ := by
  have hl : look mv (3 * k + 1) = look m (3 * k + 1) := h _ (by omega)
  unfold acqB at hx ⊢
  rw [hl]
  split at hx
  · rename_i cs hb
    split at hx
    · rename_i hle
      cases tk with
      | false =>
        obtain ⟨rfl, rfl⟩ : _ = v ∧ m = m' := by simpa using hx
        exact ⟨mv, by simp [hle], h, fun _ _ => rfl⟩
      | true =>
        obtain ⟨rfl, rfl⟩ : _ = v ∧ _ = m' := by simpa using hx
        refine ⟨_, by simp [hle]; rfl, fun κ hκ => ?_, fun κ hκ => ?_⟩
        · unfold clrB
          rw [hl, hb]
          simp only [look_put]
          split
          · rfl
          · exact h κ hκ
        · unfold clrB
          rw [hl, hb]
          simp only [look_put]
          rw [if_neg (by omega)]
    · simp at hx
  · simp at hx

theorem acqR_ok {E : Env} {G : Gh} {mv m m' : Mp} {a : Act} {w : World} (h : RelG E G ⟨mv⟩ a w) (hg : Agr mv m) {x : ResultVar} {v : V} (hx : acqR E.P m x = some (v, m')) :
    ∃ mv' vals S src u, Taken G w mv mv' v.acs vals S src ∧ VOf v vals u ∧ (resOf a.tmps x).run E.P w = .ok u w ∧ Agr mv' m' ∧ ∀ κ, κ % 3 = 2 → look mv' κ = look mv κ := by
  cases x with
  | tmp t =>
    simp only [acqR] at hx
    obtain ⟨mv', k1, k2, k3⟩ := acq_agr hg hx
    obtain ⟨vals, S, src, t1, hu⟩ := acq_taken h k1
    exact ⟨mv', vals, S, src, _, t1, hu, by simp [resOf, Act.eval, pure], k2, k3⟩
  | cell p t =>
    simp only [acqR] at hx
    split at hx
    · rename_i k off n g ho ht
      split at hx
      · rename_i hgn
        obtain ⟨mv', k1, k2, k3⟩ := acqB_agr hg hx
        obtain ⟨vals, S, src, u, t1, hu, hr⟩ := acqB_taken h ht (fun hf => hgn.resolve_left (by simp [hf])) k1
        refine ⟨mv', vals, S, src, u, t1, hu, ?_, k2, k3⟩
        have ho' : opd 0 mv (.tmp p) = some (.one (.bp k off)) := by
          rw [← ho]; simp only [opd]; rw [hg (3 * p) (by omega)]
        obtain ⟨val, own, hs, hc⟩ := opd_ok h ho'
        have he : a.tmps.getD p undef = .pointer (some ⟨G.bm k, off, none⟩) := hs.trans (hc 0 _ rfl)
        simp [resOf, he, asAddr, hr, pure]
      · simp at hx
    · simp at hx

theorem acqRs_held {E : Env} {a : Act} {w : World} : ∀ (xs : List ResultVar) (J : Nat) {G : Gh} {mv m m' : Mp} {vs : List V}, RelG E G ⟨mv⟩ a w → Agr mv m → acqRs E.P m xs = some (vs, m') →
    ∃ G' mv' us, RelG E G' ⟨mv'⟩ a w ∧ G'.F = G.F ∧ G'.bm = G.bm ∧ vs.length = xs.length ∧ us.length = xs.length ∧ (∀ κ, κ % 3 = 2 → κ < 3 * J + 2 → look mv' κ = look mv κ ∧ G'.val κ = G.val κ) ∧
      (∀ (Y : List Value), (xs.mapM (resOf a.tmps)).run E.P w = .ok us w) ∧
      ∀ j v, vs[j]? = some v → look mv' (3 * (J + j) + 2) = some (.val v) ∧ ∃ u, us[j]? = some u ∧ VSh (G'.val (3 * (J + j) + 2)) 0 v u
  | [], J, G, mv, m, m', vs, h, hg, hx => by
    obtain ⟨rfl, rfl⟩ : [] = vs ∧ m = m' := by simpa [acqRs] using hx
    exact ⟨G, mv, [], h, rfl, rfl, rfl, rfl, fun _ _ _ => ⟨rfl, rfl⟩, fun _ => by simp [pure], fun j v hj => by simp at hj⟩
  | x :: r, J, G, mv, m, m', vs, h, hg, hx => by
    simp only [acqRs] at hx
    split at hx
    · simp at hx
    · rename_i v m1 h1
      split at hx
      · simp at hx
      · rename_i vs' m2 h2
        obtain ⟨rfl, rfl⟩ : v :: vs' = vs ∧ m2 = m' := by simpa using hx
        obtain ⟨mv1, vals, S, src, u, t, hu, hrun, k2, k3⟩ := acqR_ok h hg h1
        obtain ⟨G1, h3, e1, e2, e3, e4⟩ := h.virt J v u t hu
        have hg2 : Agr (put mv1 (3 * J + 2) (.val v)) m1 := fun κ hκ => by
          rw [look_put, if_neg (by omega)]; exact k2 κ hκ
        obtain ⟨G2, mv2, us, q1, q3, q4, q5, q5', q6, q8, q7⟩ := acqRs_held r (J + 1) h3 hg2 h2
        refine ⟨G2, mv2, u :: us, q1, q3.trans e1, q4.trans e2, by simp [q5], by simp [q5'], fun κ hκ hlt => ?_, fun Y => ?_, fun j v' hj => ?_⟩
        · obtain ⟨p1, p2⟩ := q6 κ hκ (by omega)
          rw [look_put, if_neg (by omega)] at p1
          exact ⟨p1.trans (k3 κ hκ), p2.trans (e3 κ (by omega))⟩
        · have := q8 Y
          simp [List.mapM_cons, hrun, this, pure]
        · cases j with
          | zero =>
            obtain rfl : v = v' := by simpa using hj
            obtain ⟨p1, p2⟩ := q6 (3 * J + 2) (by omega) (by omega)
            rw [look_put, if_pos rfl] at p1
            refine ⟨by simpa using p1, u, rfl, ?_⟩
            simp only [Nat.add_zero]
            rw [p2]; exact e4
          | succ j =>
            obtain ⟨p1, u', p2, p3⟩ := q7 j v' (by simpa using hj)
            rw [show 3 * (J + 1 + j) + 2 = 3 * (J + (j + 1)) + 2 by omega] at p1 p3
            exact ⟨p1, u', by simpa using p2, p3⟩

/-- Where cell number i of a row of values stands. -/
def loc : List V → Nat → Nat × Nat
  | [], i => (0, i)
  | v :: vs, i => if i < v.acs.length then (0, i) else ((loc vs (i - v.acs.length)).1 + 1, (loc vs (i - v.acs.length)).2)

theorem loc_at : ∀ {vs : List V} {i : Nat} {ac : AC}, (vs.flatMap V.acs)[i]? = some ac → ∃ v, vs[(loc vs i).1]? = some v ∧ v.acs[(loc vs i).2]? = some ac
  | [], i, ac, h => by simp at h
  | v :: vs, i, ac, h => by
    simp only [List.flatMap_cons] at h
    simp only [loc]
    by_cases hi : i < v.acs.length
    · rw [List.getElem?_append_left hi] at h
      rw [if_pos hi]
      exact ⟨v, rfl, h⟩
    · rw [List.getElem?_append_right (by omega)] at h
      rw [if_neg hi]
      obtain ⟨v', h1, h2⟩ := loc_at h
      exact ⟨v', by simpa using h1, h2⟩
theorem loc_inj : ∀ {vs : List V} {i i' : Nat}, loc vs i = loc vs i' → i < (vs.flatMap V.acs).length → i' < (vs.flatMap V.acs).length → i = i'
  | [], i, i', h, hi, hi' => by simp at hi
  | v :: vs, i, i', h, hi, hi' => by
    simp only [loc] at h
    simp only [List.flatMap_cons, List.length_append] at hi hi'
    by_cases h1 : i < v.acs.length <;> by_cases h2 : i' < v.acs.length
    · rw [if_pos h1, if_pos h2] at h; simpa using h
    · rw [if_pos h1, if_neg h2] at h; simp at h
    · rw [if_neg h1, if_pos h2] at h; simp at h
    · rw [if_neg h1, if_neg h2] at h
      simp only [Prod.mk.injEq, Nat.add_right_cancel_iff] at h
      have := loc_inj (vs := vs) (i := i - v.acs.length) (i' := i' - v.acs.length) (Prod.ext h.1 h.2) (by omega) (by omega)
      omega

theorem VSh.shift {f g : Nat → Value} {n : Nat} {v : V} {u : Value} (h : VSh f 0 v u) (hpos : 0 < v.acs.length) (hv : ∀ i, i < v.acs.length → g (n + i) = f i) : VSh g n v u := by
  cases v with
  | one c => simp only [VSh] at h ⊢; rw [h]; exact (hv 0 hpos).symm
  | agg cs =>
    simp only [VSh] at h ⊢
    rw [h]
    congr 2
    apply List.ext_getElem?
    intro i
    by_cases hi : i < cs.length
    · have := hv i hi
      simp [hi, this]
    · simp [hi]

theorem vssh_of : ∀ {vs : List V} {us : List Value} {f : Nat → Nat → Value} {g : Nat → Value} {n : Nat}, us.length = vs.length → (∀ v ∈ vs, v = .one (v.acs.getD 0 default) ∨ ∃ cs, v = .agg cs) →
    (∀ j v, vs[j]? = some v → ∃ u, us[j]? = some u ∧ VSh (f j) 0 v u) → (∀ i, i < (vs.flatMap V.acs).length → g (n + i) = f (loc vs i).1 (loc vs i).2) → VsSh g n vs us
  | [], us, f, g, n, hl, _, h, hg => by
    simp only [VsSh]
    exact List.length_eq_zero_iff.1 (by simpa using hl)
  | v :: vs, us, f, g, n, hl, hsh, h, hg => by
    obtain ⟨u, us', rfl⟩ : ∃ u us', us = u :: us' := by
      cases us with
      | nil => simp at hl
      | cons u us' => exact ⟨u, us', rfl⟩
    simp only [VsSh]
    obtain ⟨u', h1, h2⟩ := h 0 v rfl
    obtain rfl : u = u' := by simpa using h1
    refine ⟨u, us', rfl, ?_, vssh_of (f := fun j => f (j + 1)) (by simpa using hl) (fun v hv => hsh v (List.mem_cons_of_mem _ hv)) (fun j v hj => by simpa using h (j + 1) v (by simpa using hj)) (fun i hi => ?_)⟩
    · have hgi : ∀ i, i < v.acs.length → g (n + i) = f 0 i := fun i hi => by
        have := hg i (by simp only [List.flatMap_cons, List.length_append]; omega)
        simp only [loc, if_pos hi] at this
        exact this
      cases v with
      | one c => exact VSh.shift h2 (by simp [V.acs]) hgi
      | agg cs =>
        cases cs with
        | nil => simp only [VSh] at h2 ⊢; simpa using h2
        | cons c cs => exact VSh.shift h2 (by simp [V.acs]) hgi
    · have := hg (v.acs.length + i) (by simp only [List.flatMap_cons, List.length_append]; omega)
      have hn : ¬ v.acs.length + i < v.acs.length := by omega
      simp only [loc, if_neg hn, Nat.add_sub_cancel_left] at this
      rw [← this]; congr 1; omega

def resV : List Value → Value
  | [u] => u
  | us => .tuple us.toArray
theorem resV_sh {val : Nat → Value} : ∀ {vs : List V} {us : List Value}, us.length = vs.length → VsSh val 0 vs us → AVSh val (avOf vs) (resV us)
  | [v1], [u1], _, hsv => by
    simp only [VsSh] at hsv
    obtain ⟨u, us', e1, e2, _⟩ := hsv
    obtain ⟨rfl, _⟩ : u1 = u ∧ [] = us' := by simpa using e1
    exact e2
  | [], [], _, hsv => ⟨[], rfl, hsv⟩
  | v1 :: v2 :: vr, u1 :: u2 :: ur, _, hsv => ⟨u1 :: u2 :: ur, rfl, hsv⟩
  | [_], [], h, _ => by simp at h
  | [_], _ :: _ :: _, h, _ => by simp at h
  | [], _ :: _, h, _ => by simp at h
  | _ :: _ :: _, [], h, _ => by simp at h
  | _ :: _ :: _, [_], h, _ => by simp at h
theorem resV_eq (us : List Value) : (if h : us.toArray.size = 1 then us.toArray[0] else .tuple us.toArray) = resV us := by
  match us with
  | [] => rfl
  | [u] => rfl
  | u1 :: u2 :: ur => simp [resV]

/-- What has to be known where a function returns. -/
def retQ (P : Program) (rs : List ResultVar) (outs : List V) : Exit → Mp → Prop
  | .normal, m | .ret, m => ∃ vs m', acqRs P m rs = some (vs, m') ∧ Vsle outs vs
  | _, _ => False

theorem PC_of {P : Program} {f : FuncId} {fn : Func} {c : Code} {ins outs : List V} {rs : List ResultVar} {nt : Nat} (hf : P.funcs[f]? = some fn) (hb : fn.body = some c) (hrs : fn.results.toList = rs) (hnt0 : fn.ntmps = nt) (hn : (ins.length ≤ nt) = True)
    (h : ∀ E : Env, E.P = P → E.nt = nt → E.np = 0 → Wp E c (retQ P rs outs) (inMap 0 (ins.map .val))) : PC P f (ins.map .val) outs [] := by
  intro E G a w hP hw hnt hF hnp hrel
  subst hP; subst hrs; subst hnt0
  replace hn := of_eq_true hn
  have hnt' : a.tmps.size = ins.length := by rw [hrel.nt, hnt]; simp
  refine calls_of_wp hf hb ?_
  let E1 : Env := { E with nt := fn.ntmps }
  let a1 : Act := { tmps := a.tmps ++ Array.replicate (fn.ntmps - a.tmps.size) undef, defers := [] }
  have hr1 : RelG E1 G ⟨inMap 0 (ins.map .val)⟩ a1 w := { hrel with
    nt := by simp [a1, E1, hnt']; omega
    dfs := rfl
    slots := fun s av hs hon => by
      have h1 := hrel.slots s av hs hon
      obtain ⟨j, v, e1, e2, e3⟩ := look_inMap ins 0 (3 * s) av hs
      obtain rfl : s = j := by omega
      have hlt : s < a.tmps.size := by rw [hnt']; exact (List.getElem?_eq_some_iff.1 e2).1
      have : a1.tmps.getD s undef = a.tmps.getD s undef := by
        simp [a1, Array.getD, hlt, Array.getElem_append_left]
        omega
      rw [this]; exact h1 }
  refine wp_mono (h E1 rfl rfl hnp a1 w ⟨G, hr1⟩) fun e a' w' hh => ?_
  obtain ⟨m', hq, G', hr'⟩ := hh
  have hd : a'.defers = [] := hr'.dfs
  have key : (∃ vs m'', acqRs E.P m' fn.results.toList = some (vs, m'') ∧ Vsle outs vs) → a'.defers = [] ∧ ∃ v, (results fn a'.tmps).run E.P w' = .ok v w' ∧
      ∃ v' G'', Ending.returned v = .returned v' ∧ RelG { E with nt := 1 } G'' ⟨outMap outs []⟩ { tmps := #[v'], defers := [] } w' ∧ ∀ p ∈ ([] : List (Nat × List AC)), G''.bm p.1 = G.bm p.1 := by
    rintro ⟨vs, m'', hx, hle⟩
    obtain ⟨G1, mv, us, h1, eF, eB, hvl, hul, _, hrun, hheld⟩ := acqRs_held fn.results.toList 0 (m := m') hr' (fun _ _ => rfl) hx
    have hrun := hrun []
    have hlk : ∀ {κ av}, look (outMap vs []) κ = some av → κ = 0 ∧ av = avOf vs := by
      intro κ av hκ
      simp only [outMap, List.map_nil, look] at hκ
      split at hκ
      · rename_i h0; exact ⟨h0.symm, by simpa using hκ.symm⟩
      · simp at hκ
    have hus : us.length = vs.length := by omega
    let v := resV us
    let G2 : Gh := { F := G1.F, bm := G1.bm, own := fun κ i b => κ = 0 ∧ i < (vs.flatMap V.acs).length ∧ G1.own (3 * (loc vs i).1 + 2) (loc vs i).2 b, val := fun κ i => G1.val (3 * (loc vs i).1 + 2) (loc vs i).2 }
    have hsv : VsSh (G2.val 0) 0 vs us := vssh_of (f := fun j => G1.val (3 * j + 2)) hus (fun v _ => by
        cases v with
        | one c => left; simp [V.acs]
        | agg cs => right; exact ⟨cs, rfl⟩) (fun j v hj => by
        obtain ⟨_, u, p1, p2⟩ := hheld j v hj
        exact ⟨u, p1, by simpa using p2⟩) (fun i hi => by simp [G2])
    have hsh : AVSh (G2.val 0) (avOf vs) v := resV_sh hus hsv
    have hcell : ∀ i ac, (avOf vs).acs[i]? = some ac → i < (vs.flatMap V.acs).length ∧ ∃ v', look mv (3 * (loc vs i).1 + 2) = some (.val v') ∧ v'.acs[(loc vs i).2]? = some ac := by
      intro i ac hi
      rw [avOf_acs] at hi
      refine ⟨(List.getElem?_eq_some_iff.1 hi).1, ?_⟩
      obtain ⟨v', p1, p2⟩ := loc_at hi
      obtain ⟨p3, _⟩ := hheld _ v' p1
      exact ⟨v', by simpa using p3, p2⟩
    have hfin : RelG { E with nt := 1 } G2 ⟨outMap vs []⟩ { tmps := #[v], defers := [] } w' := {
      nt := rfl
      dfs := rfl
      slots := fun s av hs hon => by
        obtain ⟨h0, rfl⟩ := hlk hs
        obtain rfl : s = 0 := by omega
        exact hsh
      boxes := fun k av hs => by have := (hlk hs).1; omega
      cells := fun κ av hs hon i ac hi => by
        obtain ⟨rfl, rfl⟩ := hlk hs
        obtain ⟨hlt, v', p1, p2⟩ := hcell i ac hi
        refine (h1.cells _ _ p1 trivial _ ac p2).mono (fun _ _ => id) (fun _ _ _ => rfl) (fun _ _ => rfl) (fun b hb => ⟨rfl, hlt, hb⟩) (fun _ _ _ _ => ⟨rfl, fun _ => id⟩)
      inj := fun k k' x x' hk => by have := (hlk hk).1; omega
      capk := fun κ av hs hon i ac hi hc b hb => by
        obtain ⟨rfl, rfl⟩ := hlk hs
        obtain ⟨hlt, v', p1, p2⟩ := hcell i ac hi
        exact ⟨(h1.capk _ _ p1 trivial _ ac p2 hc b hb).1, fun k x hx => by have := (hlk hx).1; omega⟩
      capd := fun κ av κ' av' hs hon hs' hon' i ac i' ac' hi hi' hc hc' b hb hb' => by
        obtain ⟨rfl, rfl⟩ := hlk hs
        obtain ⟨rfl, rfl⟩ := hlk hs'
        obtain ⟨hlt, v1, p1, p2⟩ := hcell i ac hi
        obtain ⟨hlt', v2, p3, p4⟩ := hcell i' ac' hi'
        obtain ⟨e1, e2⟩ := h1.capd _ _ _ _ p1 trivial p3 trivial _ ac _ ac' p2 p4 hc hc' b hb hb'
        exact ⟨rfl, loc_inj (Prod.ext (by omega) e2) hlt hlt'⟩
      fsz := h1.fsz
      f0 := h1.f0
      f1 := h1.f1
      fc := h1.fc
      kept := h1.kept
      ownd := fun κ i κ' i' b hb hb' => by
        obtain ⟨e1, e2⟩ := h1.ownd _ _ _ _ _ hb.2.2 hb'.2.2
        exact ⟨hb.1.trans hb'.1.symm, loc_inj (Prod.ext (by omega) e2) hb.2.1 hb'.2.1⟩
      own0 := fun κ i b hb => h1.own0 _ _ _ hb.2.2
      size := h1.size
      os := h1.os
      tape := h1.tape
      out := h1.out
      pbf := fun k hk => by simp only [hnp] at hk; omega }
    have hav : AVle (avOf outs) (avOf vs) := by
      match outs, vs, hle with
      | [o1], [v1], hle => exact hle.1
      | [], [], hle => exact hle
      | o1 :: o2 :: os, v1 :: v2 :: vr, hle => exact hle
      | [], _ :: _, hle => exact hle.elim
      | _ :: _, [], hle => exact hle.elim
      | [_], _ :: _ :: _, hle => exact hle.2.elim
      | _ :: _ :: _, [_], hle => exact hle.2.elim
    have hlew : Le ⟨outMap outs []⟩ ⟨outMap vs []⟩ := by
      intro κ av hκ
      simp only [outMap, List.map_nil, look] at hκ ⊢
      split at hκ
      · rename_i h0
        obtain rfl : avOf outs = av := by simpa using hκ
        exact ⟨avOf vs, by simp [h0], hav⟩
      · simp at hκ
    refine ⟨hd, v, ?_, v, _, rfl, hfin.weaken hlew _ (fun _ _ _ => id) (fun _ _ _ _ _ _ _ _ => id), fun p hp => by simp at hp⟩
    have e2 : (fn.results.mapM (resOf a'.tmps)).run E.P w' = .ok us.toArray w' := by
      rw [Array.mapM_eq_mapM_toList, ← bind_pure_comp]
      have := hrun
      simp only [E1] at this
      simp [this, pure]
    have e1 : results fn a'.tmps = (do let vs ← fn.results.mapM (resOf a'.tmps); pure (if h : vs.size = 1 then vs[0] else .tuple vs)) := by
      unfold results
      congr 1
    rw [e1]
    show _ = Result.ok (resV us) w'
    rw [← resV_eq us, Sem.run_bind, e2]
    rfl
  cases e with
  | normal => exact key hq
  | ret => exact key hq
  | _ => exact hq.elim
end Go.RF
