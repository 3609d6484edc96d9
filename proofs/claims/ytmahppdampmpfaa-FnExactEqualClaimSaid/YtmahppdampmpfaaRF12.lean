/- A logic over the walk in which memory is hidden, part 12: slice literals. -/
import Derived.Test.YtmahppdampmpfaaRF11
set_option linter.unusedVariables false
namespace Go.RF
open Go.RowKit (Below)

def dOf : AC → Option D
  | .v d _ _ => some d
  | _ => none
def dsOf : List AC → Option (List D)
  | [] => some []
  | c :: cs => match dOf c, dsOf cs with
    | some d, some ds => some (d :: ds)
    | _, _ => none
def owned : AC → Bool
  | .v (.raw _) _ _ => true
  | .v _ _ o => o
  | _ => false
def chunk (wd : Nat) : Nat → List D → List (List D)
  | 0, _ => []
  | n + 1, ds => ds.take wd :: chunk wd n (ds.drop wd)

theorem rdl_of {F : Fz} {bm : Nat → Nat} {w : World} : ∀ {acs : List AC} {vals : List Value} {own : Nat → Nat → Prop} {ds : List D}, vals.length = acs.length →
    (∀ i ac, acs[i]? = some ac → ACR F bm (own i) w ac (vals.getD i undef)) → dsOf acs = some ds →
    ∃ B, RdL w F ds vals B ∧ (acs.all owned = true → (∀ i i' b, own i b → own i' b → i = i') → B.Nodup ∧ ∀ b ∈ B, ∃ i, own i b)
  | [], vals, own, ds, hl, h, hd => by
    obtain rfl : [] = ds := by simpa [dsOf] using hd
    obtain rfl : vals = [] := by simpa using hl
    exact ⟨[], by simp [RdL], fun _ _ => by simp⟩
  | c :: cs, vals, own, ds, hl, h, hd => by
    match vals, hl with
    | u :: us, hl =>
      simp only [dsOf] at hd
      split at hd
      · rename_i d ds' h1 h2
        obtain rfl : d :: ds' = ds := by simpa using hd
        have h0 := h 0 c rfl
        have hr : ∀ i ac, cs[i]? = some ac → ACR F bm (own (i + 1)) w ac (us.getD i undef) := fun i ac hi => by
          have := h (i + 1) ac (by simpa using hi)
          simpa using this
        obtain ⟨B2, k1, k2⟩ := rdl_of (own := fun i => own (i + 1)) (by simpa using hl) hr h2
        cases c with
        | bp k o => simp [dOf] at h1
        | bs k o => simp [dOf] at h1
        | v d' cc oo =>
          obtain rfl : d' = d := by simpa [dOf] using h1
          obtain ⟨B1, q1, q2, _⟩ := h0
          refine ⟨B1 ++ B2, by simp only [RdL]; exact ⟨u, us, B1, B2, rfl, rfl, by simpa using q1, k1⟩, fun hall hdis => ?_⟩
          simp only [List.all_cons, Bool.and_eq_true] at hall
          obtain ⟨n2, m2⟩ := k2 hall.2 (fun i i' b h1 h2 => by have := hdis _ _ b h1 h2; omega)
          have hB1 : B1.Nodup ∧ ∀ b ∈ B1, own 0 b := by
            cases d' with
            | raw x => simp only [Rd] at q1; simp [q1.2.2]
            | _ => exact ⟨(q2 hall.1).1, (q2 hall.1).2.1⟩
          refine ⟨List.nodup_append.2 ⟨hB1.1, n2, fun x hx y hy hxy => ?_⟩, fun b hb => ?_⟩
          · subst hxy
            obtain ⟨i, hi⟩ := m2 x hy
            have := hdis _ _ _ (hB1.2 x hx) hi
            omega
          · rcases List.mem_append.1 hb with hb | hb
            · exact ⟨0, hB1.2 b hb⟩
            · obtain ⟨i, hi⟩ := m2 b hb; exact ⟨i + 1, hi⟩
      · simp at hd

theorem RdL.split {w : World} {F : Fz} : ∀ {a b : List D} {vs : List Value} {B : List Nat}, RdL w F (a ++ b) vs B → ∃ v1 v2 B1 B2, vs = v1 ++ v2 ∧ B = B1 ++ B2 ∧ RdL w F a v1 B1 ∧ RdL w F b v2 B2
  | [], b, vs, B, h => ⟨[], vs, [], B, rfl, rfl, by simp [RdL], h⟩
  | d :: a, b, vs, B, h => by
    simp only [List.cons_append, RdL] at h
    obtain ⟨u, us, B1, B2, rfl, rfl, h3, h4⟩ := h
    obtain ⟨v1, v2, B3, B4, rfl, rfl, h5, h6⟩ := RdL.split h4
    exact ⟨u :: v1, v2, B1 ++ B3, B4, rfl, by simp, by simp only [RdL]; exact ⟨u, v1, B1, B3, rfl, rfl, h3, h5⟩, h6⟩

theorem rows_of {w : World} {F : Fz} {wd : Nat} : ∀ (n : Nat) {ds : List D} {vs : List Value} {B : List Nat}, RdL w F ds vs B → ds.length = n * wd → RdRows w F (chunk wd n ds) vs B ∧ (∀ e ∈ chunk wd n ds, e.length = wd) ∧ (chunk wd n ds).length = n
  | 0, ds, vs, B, h, hl => by
    obtain rfl : ds = [] := by simpa using hl
    simp only [RdL] at h
    obtain ⟨rfl, rfl⟩ := h
    exact ⟨by simp [chunk, RdRows], by simp [chunk], rfl⟩
  | n + 1, ds, vs, B, h, hl => by
    have e : ds = ds.take wd ++ ds.drop wd := (List.take_append_drop wd ds).symm
    rw [e] at h
    obtain ⟨v1, v2, B1, B2, rfl, rfl, h3, h4⟩ := RdL.split h
    have hl2 : (ds.drop wd).length = n * wd := by rw [List.length_drop, hl, Nat.add_mul]; omega
    obtain ⟨k1, k2, k3⟩ := rows_of n h4 hl2
    refine ⟨by simp only [chunk, RdRows]; exact ⟨v1, v2, B1, B2, rfl, rfl, h3, k1⟩, ?_, by simp [chunk, k3]⟩
    intro x hx
    simp only [chunk, List.mem_cons] at hx
    rcases hx with rfl | hx
    · rw [List.length_take, hl, Nat.add_mul]; omega
    · exact k2 x hx

/-- A slot takes a slice over a new row. -/
theorem RelG.row {E : Env} {G : Gh} {m m' : List (Nat × AV)} {a : Act} {w w1 : World} (h : RelG E G ⟨m⟩ a w) (d : Nat) (hd : d < E.nt) {acs : List AC} {vals : List Value} {S : Nat → Nat → Prop} {src : Nat → Option (Nat × Nat)}
    (t : Taken G w m m' acs vals S src) (hb : Below w.heap.size w w1) {cur : Array Value} {e : TypeId} (hnb : w1.heap[w.heap.size]? = some (.cells cur e (0, 0))) (hsz : w1.heap.size = w.heap.size + 1)
    {wd n cap : Nat} {es : List (List D)} {xs : List Value} {Bx : List Nat} {o : Bool} (hn : es.length = n) (hxs : xs.length = n * wd) (htk : cur.toList.take (n * wd) = xs) (hcap : n ≤ cap) (hmax : cap ≤ maxLen) (hcs : cur.size = cap * wd)
    (hwd : ∀ x ∈ es, x.length = wd) (hrd : RdRows w G.F es xs Bx) (ho : o = true → Bx.Nodup ∧ ∀ b ∈ Bx, ∃ i, ownOf G src acs.length i b) :
    Rel E ⟨put m' (3 * d) (.val (.one (.v (.sl wd es) true o)))⟩ (a.put (some d) (.slice (some ⟨w.heap.size, 0, none⟩) n cap)) w1 := by
  obtain ⟨h1, h2, h3, h4⟩ := t.facts h
  have h5 := h1.grow hb (fun b j => G.F b j ∨ (b = w.heap.size ∧ j < n * wd)) (fun _ _ => .inl) (fun b j hf => by
    rcases hf with hf | ⟨rfl, _⟩
    · exact .inl hf
    · exact .inr ⟨Nat.le_refl _, by omega⟩)
  have hF : ∀ b j, G.F b j → w1.cell? ⟨b, j, none⟩ = w.cell? ⟨b, j, none⟩ := fun b j hf => hb.cell (p := ⟨b, j, none⟩) (h.fsz b j hf)
  have hw0 : E.w0.heap.size ≤ w.heap.size := h.size
  refine ⟨_, h5.slot d hd (.val (.one (.v (.sl wd es) true o))) _ (fun _ => .slice (some ⟨w.heap.size, 0, none⟩) n cap) (fun i b => i = 0 ∧ (b = w.heap.size ∨ ∃ i, ownOf G src acs.length i b)) (fun _ => rfl) (fun _ i ac hi => ?_) (fun _ i ac hi hc b hs => ?_) (fun i b hbb => ?_)⟩
  · cases i with
    | succ i => simp [AV.acs, V.acs] at hi
    | zero =>
      obtain rfl : _ = ac := by simpa [AV.acs, V.acs] using hi
      refine ⟨w.heap.size :: Bx, ?_, fun hoo => ⟨?_, ?_, fun _ b hs => ?_⟩, fun _ => ⟨wd, es, rfl, some ⟨w.heap.size, 0, none⟩, n, cap, rfl, hcap, .inr ⟨w.heap.size, 0, cur, e, rfl, hnb, by omega, fun j hj hj' hf => ?_⟩⟩⟩
      · simp only [Rd]
        refine ⟨some ⟨w.heap.size, 0, none⟩, cap, by rw [hn], by omega, hmax, hwd, .inr ⟨w.heap.size, 0, xs, Bx, rfl, rfl, fun j u hj => ?_, RdRows.mono (fun _ _ => .inl) hF _ _ _ hrd⟩⟩
        have hjl : j < xs.length := (List.getElem?_eq_some_iff.1 hj).1
        refine ⟨?_, .inr ⟨rfl, by omega⟩⟩
        rw [cell_of_row w1 _ _ cur e (0, 0) hnb, Nat.zero_add]
        rw [← htk, List.getElem?_take] at hj
        split at hj
        · simpa using hj
        · simp at hj
      · obtain ⟨n1, m1⟩ := ho hoo
        refine List.nodup_cons.2 ⟨fun hm => ?_, n1⟩
        obtain ⟨i, hi⟩ := m1 _ hm
        exact absurd (h4 i _ hi).2.1 (Nat.lt_irrefl _)
      · intro b hb'
        rcases List.mem_cons.1 hb' with rfl | hb'
        · exact ⟨rfl, .inl rfl⟩
        · exact ⟨rfl, .inr ((ho hoo).2 b hb')⟩
      · simp only [spareB] at hs
        split at hs
        · simp at hs; exact ⟨rfl, .inl hs.symm⟩
        · simp at hs
      · rw [Nat.zero_add] at hf
        rcases hf with hf | ⟨_, hf⟩
        · exact absurd (h.fsz _ _ hf) (Nat.lt_irrefl _)
        · omega
  · cases i with
    | succ i => simp [AV.acs, V.acs] at hi
    | zero =>
      simp only [spareB] at hs
      split at hs
      · obtain rfl : w.heap.size = b := by simpa using hs
        refine ⟨⟨⟨fun hk => absurd (Nat.lt_of_lt_of_le (E.hk _ hk) hw0) (Nat.lt_irrefl _), .inl hw0⟩, fun k x hx hbm => ?_⟩, fun κ av' hκ hk hon i' ac' hi' hc' hs' => ?_, fun i' ac' hi' _ _ => ?_⟩
        · obtain ⟨cs, t', _, r1, _⟩ := h1.boxes k x hx
          have := (Array.getElem?_eq_some_iff.1 r1).1
          simp only [] at hbm this
          omega
        · obtain ⟨wd', hcp⟩ := (h1.cells κ av' hk hon i' ac' hi').sz hc'
          exact absurd (hcp.block_lt hs') (Nat.lt_irrefl _)
        · cases i' with
          | zero => rfl
          | succ i' => simp [AV.acs, V.acs] at hi'
      · simp at hs
  · obtain ⟨rfl, hbb⟩ := hbb
    refine ⟨?_, ?_, fun κ i' _ hoo => ?_, fun i' hh => hh.1.symm⟩
    · rcases hbb with rfl | ⟨i, hi⟩
      · exact .inl hw0
      · exact (h4 i b hi).1
    · rcases hbb with rfl | ⟨i, hi⟩
      · omega
      · have := (h4 i b hi).2.1; omega
    · rcases hbb with rfl | ⟨i, hi⟩
      · exact absurd (h1.own0 κ i' _ hoo).2 (Nat.lt_irrefl _)
      · exact (h4 i b hi).2.2.1 κ i' hoo

theorem op_buildSlice {E : Env} {m m' : List (Nat × AV)} {o : Oper} {t : TypeId} {len : Nat} {parts : Array (Nat × Operand)} {d wd by_ : Nat} {e : TypeId} {zs acs : List AC} {ds : List D} (ho : o.op = .buildSlice t len parts) (hd : o.dst = some d) (hlt : d < E.nt)
    (ht : se E.P t = some (wd, by_)) (hte : E.P.underlying t = some (.slice e)) (hz : zi E.P e = some zs) (hzl : zs.length = wd) (hpos : len * wd ≠ 0) (hsm : len * wd ≤ 16777216)
    (hx : acqs (fun i => some (i * wd, wd)) m ((List.replicate len zs).flatten) parts.toList = some (acs, m')) (hds : dsOf acs = some ds) :
    OpOK E m o (put m' (3 * d) (.val (.one (.v (.sl wd (chunk wd len ds)) true (acs.all owned))))) := by
  intro a w Q ⟨G, h⟩
  obtain ⟨i, z, hi, hzz, ht0⟩ := zi_taken hz G w m
  obtain ⟨e', ie, hu, hi1, hi2, _⟩ := se_spec ht
  obtain rfl : e' = e := by rw [hte] at hu; simpa using hu.symm
  obtain rfl : i = ie := by rw [hi] at hi1; simpa using hi1
  have hzc : z.cells.size = wd := by have := ht0.len; rw [hzl] at this; simpa using this
  have hrep : ∀ n, Taken G w m m ((List.replicate n zs).flatten) ((List.replicate n z.cells.toList).flatten) (fun _ _ => False) (fun _ => none) := by
    intro n
    induction n with
    | zero => exact Taken.nil
    | succ n ih =>
      refine ⟨Drop.refl m, ?_, fun j ac hj => ?_, fun i i' p _ _ h => by simp at h⟩
      · rw [List.replicate_succ, List.replicate_succ, List.flatten_cons, List.flatten_cons, List.length_append, List.length_append, ih.len, ht0.len]
      · rw [List.replicate_succ, List.flatten_cons] at hj
        simp only [List.replicate_succ, List.flatten_cons, List.getD]
        by_cases hjl : j < zs.length
        · rw [List.getElem?_append_left hjl] at hj
          rw [List.getElem?_append_left (by rw [ht0.len]; exact hjl)]
          exact ht0.cell j ac hj
        · rw [List.getElem?_append_right (by omega)] at hj
          rw [List.getElem?_append_right (by rw [ht0.len]; omega), ht0.len]
          exact ih.cell _ ac hj
  obtain ⟨vals', S', src', k1, k2, k3⟩ := acqs_taken parts.toList h (hrep len) hx
  have hzero : ((List.replicate len z.cells.toList).flatten).toArray = (Array.range (len * wd)).map (z.cells[· % z.cells.size]!) := by
    have hw0 : 0 < wd := Nat.pos_of_ne_zero fun h0 => hpos (by rw [h0, Nat.mul_zero])
    apply Array.ext'
    apply List.ext_getElem?
    intro j
    have hgen : ∀ n j, j < n * wd → ((List.replicate n z.cells.toList).flatten)[j]? = some (z.cells[j % wd]!) := by
      intro n
      induction n with
      | zero => intro j hj; omega
      | succ n ih =>
        intro j hj
        rw [List.replicate_succ, List.flatten_cons]
        by_cases hjl : j < wd
        · rw [List.getElem?_append_left (by simp [hzc]; exact hjl), Nat.mod_eq_of_lt hjl]
          have : j < z.cells.size := by omega
          simp [this]
        · have hj2 : j - wd < n * wd := by
            have : j < n * wd + wd := by rw [← Nat.succ_mul]; exact hj
            omega
          rw [List.getElem?_append_right (by simp [hzc]; omega)]
          have e1 : z.cells.toList.length = wd := by simp [hzc]
          rw [e1, ih (j - wd) hj2, ← Nat.mod_eq_sub_mod (by omega : wd ≤ j)]
    have hlen : ((List.replicate len z.cells.toList).flatten).length = len * wd := by simp [List.length_flatten, hzc]
    by_cases hj : j < len * wd
    · rw [hgen len j hj]; simp [hj, hzc]
    · rw [List.getElem?_eq_none (by simpa [hzc] using (by omega : len * wd ≤ j)), List.getElem?_eq_none (by simp; omega)]
  have hrun := run_buildSlice (P := E.P) w t e' len (parts.map fun (i, x) => (i, a.eval x)) vals'.toArray i z hu hi hzz (by rw [hi2]; omega) (by rw [hi2]; exact hpos) (by
    rw [hi2, ← hzero]; simpa using k2)
  have hlz : acs.length = len * wd := by rw [k3, List.length_flatten]; simp [hzl]
  obtain ⟨h1, h2, h3, h4⟩ := k1.facts h
  obtain ⟨B, r1, r2⟩ := rdl_of k1.len h2 hds
  have hdl : ds.length = len * wd := by have := RdL.length r1; rw [k1.len, hlz] at this; exact this.symm
  obtain ⟨q1, q2, q3⟩ := rows_of len r1 hdl
  refine wp_of_run (v := .slice (some ⟨w.heap.size, 0, none⟩) len len) (w' := w.alloc (.cells vals'.toArray e')) ?_ ?_
  · simp [execOp, ho, hrun, pure]
  · rw [hd]
    have hvl : vals'.length = len * wd := by rw [k1.len, hlz]
    refine h.row d hlt k1 ((Below.refl _ w).alloc (Nat.le_refl _) _) (heap_alloc_new w _) (by simp) q3 hvl (by rw [← hvl]; simp) (Nat.le_refl _) ?_ (by simp [hvl]) q2 q1 (fun hh => r2 hh (fun i i' b hb hb' => (h4 i b hb).2.2.2 i' hb'))
    have : len ≤ len * wd := Nat.le_mul_of_pos_right _ (Nat.pos_of_ne_zero fun h0 => hpos (by rw [h0, Nat.mul_zero]))
    unfold maxLen; omega
end Go.RF
