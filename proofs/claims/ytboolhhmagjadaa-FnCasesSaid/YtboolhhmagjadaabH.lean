/- The functions of this seat, as that machine runs them. -/
import Derived.Test.YtboolhhmagjadaabD
set_option linter.unusedVariables false
set_option linter.unusedSimpArgs false
namespace Go.Q.S
open Go Go.Q Go.Proofs
def DG (code : Rows) (x : Nat × List D) : Prop := ∃ g : Gu, ∃ i' : Nat, ∃ h' : Int, g.ok ∧ x = (0, [.int g.k, .int g.l.k, .int g.l.n, .str g.l.s, .sl (g.l.as.map Tm.row), .int g.r.k, .int g.r.n, .str g.r.s, .sl (g.r.as.map Tm.row), .sl code, .int (i' : Int), .int h'])
theorem leafG {code : Rows} {k : Int} {t u : Tm} {i : Nat} {h : Int} (ht : t.nodes ≤ 1048576) (hu : u.nodes ≤ 1048576) : Good (some (0, [.int k, .int t.k, .int t.n, .str t.s, .sl (t.as.map Tm.row), .int u.k, .int u.n, .str u.s, .sl (u.as.map Tm.row), .sl code, .int (i : Int), .int h])) (DG code) :=
  Good.ret ⟨⟨k, t, u⟩, i, h, ⟨ht, hu⟩, rfl⟩
theorem wordN {code : Rows} (hl : code.length ≤ 1048576) (d : Nat) (k : Int) (e : (d : Int) = k) (m : Nat) (hm : 4 ^ d ≤ m) (hd : d ≤ 64) (g : Bool) (i : Nat) (h : Int) : Good (rn ⟨144, 0, 0⟩ [.str (⟨#[119, 111, 114, 100]⟩ : ByteArray), .int k, .bool g, .sl code, .int (i : Int), .int h]) (DT code m) := by
  subst e
  exact Good.mono (word_ok hl d g i h hd) fun x ⟨t, i', h', ht, e⟩ => ⟨t, i', h', Nat.le_trans ht hm, e⟩
theorem termN {code : Rows} (hl : code.length ≤ 1048576) {s : ByteArray} (hs : s ≠ (⟨#[119, 111, 114, 100]⟩ : ByteArray)) (d : Nat) (k : Int) (e : (d : Int) = k) (m : Nat) (hm : 8 * 4 ^ d ≤ m) (hd : d ≤ 64) (g : Bool) (i : Nat) (h : Int) : Good (rn ⟨144, 0, 0⟩ [.str s, .int k, .bool g, .sl code, .int (i : Int), .int h]) (DT code m) := by
  subst e
  exact Good.mono (term_ok hl hs d g i h hd) fun x ⟨t, i', h', ht, e⟩ => ⟨t, i', h', Nat.le_trans ht hm, e⟩
theorem guard_ok {code : Rows} (hl : code.length ≤ 1048576) (i : Nat) (h : Int) : Good (rn ⟨85, 0, 0⟩ [.sl code, .int (i : Int), .int h]) (DG code) := by
  show Good (run H Try.prog _ _) _
  rw [run_eq, g85_0_0_eq, g85_0_0]
  repeat' (first
    | (refine Good.bind (wordN hl 3 _ rfl 1048576 (by decide) (by decide) _ _ _) ?_; rintro _ ⟨t, i, h, _, rfl⟩; simp only [nth, List.getD_cons_zero, List.getD_cons_succ, D.I, D.S, D.L, D.B])
    | (refine Good.bind (wordN hl 2 _ rfl 1048576 (by decide) (by decide) _ _ _) ?_; rintro _ ⟨t, i, h, _, rfl⟩; simp only [nth, List.getD_cons_zero, List.getD_cons_succ, D.I, D.S, D.L, D.B])
    | (refine Good.bind (termN hl (by decide) 2 _ rfl 1048576 (by decide) (by decide) _ _ _) ?_; rintro _ ⟨t, i, h, _, rfl⟩; simp only [nth, List.getD_cons_zero, List.getD_cons_succ, D.I, D.S, D.L, D.B])
    | (first
      | refine Good.ite (fun _ => ?_) (fun _ => ?_)
      | (refine Good.bind (once_ok hl _ _ (by decide) (by decide)) ?_; rintro _ ⟨b, i, h, rfl⟩; simp only [nth, List.getD_cons_zero, List.getD_cons_succ, D.I, D.S, D.L, D.B])
      | (refine Good.bind (below_ok hl _ _ (by decide) (by decide)) ?_; rintro _ ⟨b, i, h, _, _, rfl⟩; simp only [nth, List.getD_cons_zero, List.getD_cons_succ, D.I, D.S, D.L, D.B])
      | (refine Good.bind (pick_ok hl _ _ (by decide) (by decide)) ?_; rintro _ ⟨b, i, h, rfl⟩; simp only [nth, List.getD_cons_zero, List.getD_cons_succ, D.I, D.S, D.L, D.B])
      | (simp only [z137, z91, Option.bind_some, nth, List.getD_cons_zero, List.getD_cons_succ, D.I, D.S, D.L, D.B])
      | (simp only [z176, z168, z175, Option.bind_some, nth, List.getD_cons_zero, List.getD_cons_succ, D.I, D.S, D.L, D.B])))
  all_goals exact leafG (by assumption) (by assumption)
theorem new_ok {code : Rows} (hl : code.length ≤ 1048576) : Good (rn ⟨80, 0, 0⟩ [.sl code]) fun x => ∃ h : Int, x = (0, [.sl code, .int ((0 : Nat) : Int), .int h]) := by
  show Good (run H Try.prog _ _) _
  rw [run_eq, g80_0_0_eq, g80_0_0]
  have hk : ∀ (k i : Nat) (h : Int), i + k = code.length → Good (run H Try.prog ⟨80, 0, 1⟩ [.sl code, .int h, .int (i : Int)]) fun x => ∃ h : Int, x = (0, [.sl code, .int h]) := by
    intro k
    induction k with
    | zero =>
      intro i h hi
      rw [run_eq, g80_0_1_eq, g80_0_1]
      rw [decide_eq_false (by omega : ¬ (i : Int) < (code.length : Int))]
      exact Good.ret ⟨_, rfl⟩
    | succ k ih =>
      intro i h hi
      rw [run_eq, g80_0_1_eq, g80_0_1]
      rw [decide_eq_true (by omega : (i : Int) < (code.length : Int))]
      simp only [cond_true, inbN, show i < code.length from by omega, decide_true, wrap_succ (show i < code.length from by omega) (by unfold maxLen; omega)]
      exact Good.ite (fun _ => ih _ _ (by omega)) (fun _ => Good.ret ⟨_, rfl⟩)
  refine Good.bind (hk code.length 0 _ (by omega)) ?_
  rintro _ ⟨h, rfl⟩
  simp only [nth, List.getD_cons_zero, List.getD_cons_succ, D.I, D.S, D.L, D.B, Nat.beq_refl, cond_true]
  exact Good.ret ⟨_, rfl⟩
theorem dvals_ok {code : Rows} (hl : code.length ≤ 1048576) : Good (rn ⟨12, 0, 0⟩ [.sl code]) fun x => ∃ n c : Nat, n < 5 ∧ c < 70 ∧ x = (0, [.int (n : Int), .int ((c : Int) - 1)]) := by
  show Good (run H Try.prog _ _) _
  rw [run_eq, g12_0_0_eq, g12_0_0]
  refine Good.bind (new_ok hl) ?_
  rintro _ ⟨h, rfl⟩
  simp only [nth, List.getD_cons_zero, List.getD_cons_succ, D.I, D.S, D.L, D.B]
  refine Good.bind (below_ok hl _ _ (by decide) (by decide)) ?_
  rintro _ ⟨b, i, h, p, q, rfl⟩
  simp only [nth, List.getD_cons_zero, List.getD_cons_succ, D.I, D.S, D.L, D.B]
  refine Good.bind (below_ok hl _ _ (by decide) (by decide)) ?_
  rintro _ ⟨c, i, h, p', q', rfl⟩
  simp only [nth, List.getD_cons_zero, List.getD_cons_succ, D.I, D.S, D.L, D.B]
  refine Good.ret ⟨b.toNat, c.toNat, by omega, by omega, ?_⟩
  rw [Int.toNat_of_nonneg p, Int.toNat_of_nonneg p', show IntKind.i64.wrap (c - 1) = c - 1 from by unfold IntKind.wrap; simp [IntKind.bits, IntKind.signed]; omega]
def nmkl : List ByteArray := [⟨#[78]⟩, ⟨#[77]⟩, ⟨#[75]⟩, ⟨#[76]⟩]
theorem nmkl_rows : ([[.str (⟨#[78]⟩ : ByteArray)], [.str (⟨#[77]⟩ : ByteArray)], [.str (⟨#[75]⟩ : ByteArray)], [.str (⟨#[76]⟩ : ByteArray)]] : Rows) = nmkl.map sRow := rfl
theorem nmkl_take (k : Nat) : ((nmkl.map sRow).take k).drop 0 = (nmkl.take k).map sRow := by rw [List.drop_zero, List.map_take]
theorem dsub_ok {code : Rows} (hl : code.length ≤ 1048576) : Good (rn ⟨20, 0, 0⟩ [.sl code]) fun x => ∃ vars : List ByteArray, ∃ c : Int, x = (0, [.sl (vars.map sRow), .int c]) := by
  show Good (run H Try.prog _ _) _
  rw [run_eq, g20_0_0_eq, g20_0_0]
  refine Good.bind (new_ok hl) ?_
  rintro _ ⟨h, rfl⟩
  simp only [nth, List.getD_cons_zero, List.getD_cons_succ, D.I, D.S, D.L, D.B]
  refine Good.bind (below_ok hl _ _ (by decide) (by decide)) ?_
  rintro _ ⟨b, i, h, p, q, rfl⟩
  simp only [nth, List.getD_cons_zero, List.getD_cons_succ, D.I, D.S, D.L, D.B]
  rw [decide_eq_true (by decide : (0 : Int) ≤ 0), decide_eq_true p, decide_eq_true (show b ≤ (([[D.str ⟨#[78]⟩], [D.str ⟨#[77]⟩], [D.str ⟨#[75]⟩], [D.str ⟨#[76]⟩]] : Rows).length : Int) from by simp; omega)]
  simp only [Bool.and_self, cond_true]
  refine Good.bind (below_ok hl _ _ (by decide) (by decide)) ?_
  rintro _ ⟨c, i, h, p', q', rfl⟩
  rw [nmkl_rows]
  exact Good.ret ⟨nmkl.take b.toNat, _, by rw [← nmkl_take]; rfl⟩
theorem dall_ok {code : Rows} (hl : code.length ≤ 1048576) : Good (rn ⟨18, 0, 0⟩ [.sl code]) fun x => ∃ vars : List ByteArray, ∃ gs : List Gu, vars.length ≤ 4 ∧ gs.length ≤ 3 ∧ (∀ g ∈ gs, g.ok) ∧ x = (0, [.sl (vars.map sRow), .sl (gs.map Gu.row)]) := by
  show Good (run H Try.prog _ _) _
  rw [run_eq, g18_0_0_eq, g18_0_0]
  refine Good.bind (new_ok hl) ?_
  rintro _ ⟨h, rfl⟩
  simp only [nth, List.getD_cons_zero, List.getD_cons_succ, D.I, D.S, D.L, D.B]
  refine Good.bind (below_ok hl _ _ (by decide) (by decide)) ?_
  rintro _ ⟨b, i, h, p, q, rfl⟩
  simp only [nth, List.getD_cons_zero, List.getD_cons_succ, D.I, D.S, D.L, D.B]
  have hk : ∀ (m k i : Nat) (h : Int) (gs : List Gu), (k : Int) + m = b → gs.length = k → (∀ g ∈ gs, g.ok) → Good (run H Try.prog ⟨18, 0, 1⟩ [.int b, .int (k : Int), .sl code, .int (i : Int), .int h, .sl (gs.map Gu.row)]) fun x => ∃ i : Nat, ∃ h : Int, ∃ gs : List Gu, gs.length ≤ 3 ∧ (∀ g ∈ gs, g.ok) ∧ x = (0, [.sl code, .int (i : Int), .int h, .sl (gs.map Gu.row)]) := by
    intro m
    induction m with
    | zero =>
      intro k i h gs hb hg ho
      rw [run_eq, g18_0_1_eq, g18_0_1]
      rw [decide_eq_false (by omega : ¬ (k : Int) < b)]
      exact Good.ret ⟨i, h, gs, by omega, ho, rfl⟩
    | succ m ih =>
      intro k i h gs hb hg ho
      rw [run_eq, g18_0_1_eq, g18_0_1]
      rw [decide_eq_true (by omega : (k : Int) < b)]
      simp only [cond_true]
      refine Good.bind (guard_ok hl _ _) ?_
      rintro _ ⟨g, i, h, hgo, rfl⟩
      simp only [nth, List.getD_cons_zero, List.getD_cons_succ, D.I, D.S, D.L, D.B, List.length_map]
      rw [show Nat.ble (gs.length + ([[.int g.k, .int g.l.k, .int g.l.n, .str g.l.s, .sl (g.l.as.map Tm.row), .int g.r.k, .int g.r.n, .str g.r.s, .sl (g.r.as.map Tm.row)]] : Rows).length) M63 = true from Nat.ble_eq_true_of_le (by unfold M63; simp; omega), wrap_succ (i := k) (n := 4) (by omega) (by decide)]
      simp only [cond_true]
      have e : gs.map Gu.row ++ ([[.int g.k, .int g.l.k, .int g.l.n, .str g.l.s, .sl (g.l.as.map Tm.row), .int g.r.k, .int g.r.n, .str g.r.s, .sl (g.r.as.map Tm.row)]] : Rows) = (gs ++ [g]).map Gu.row := by rw [List.map_append]; rfl
      rw [e]
      exact ih (k + 1) i h (gs ++ [g]) (by omega) (by simp; omega) (fun x hx => by
        rcases List.mem_append.1 hx with hx | hx
        · exact ho x hx
        · rw [List.mem_singleton.1 hx]; exact hgo)
  refine Good.bind (hk b.toNat 0 i h [] (by omega) rfl (by simp)) ?_
  rintro _ ⟨i, h, gs, hg, ho, rfl⟩
  simp only [nth, List.getD_cons_zero, List.getD_cons_succ, D.I, D.S, D.L, D.B, Nat.beq_refl, cond_true]
  refine Good.bind (pickInt_ok hl _ _ (by decide) (by decide)) ?_
  rintro _ ⟨k, i, h, hk, rfl⟩
  simp only [nth, List.getD_cons_zero, List.getD_cons_succ, D.I, D.S, D.L, D.B]
  rw [nmkl_rows]
  have hk : k < 6 := hk
  match k, hk with
  | 0, _ => exact (show Good (some (0, [.sl ((nmkl.take 2).map sRow), .sl (gs.map Gu.row)])) _ from Good.ret ⟨nmkl.take 2, gs, by decide, hg, ho, rfl⟩)
  | 1, _ => exact (show Good (some (0, [.sl ((nmkl.take 2).map sRow), .sl (gs.map Gu.row)])) _ from Good.ret ⟨nmkl.take 2, gs, by decide, hg, ho, rfl⟩)
  | 2, _ => exact (show Good (some (0, [.sl ((nmkl.take 2).map sRow), .sl (gs.map Gu.row)])) _ from Good.ret ⟨nmkl.take 2, gs, by decide, hg, ho, rfl⟩)
  | 3, _ => exact (show Good (some (0, [.sl ((nmkl.take 1).map sRow), .sl (gs.map Gu.row)])) _ from Good.ret ⟨nmkl.take 1, gs, by decide, hg, ho, rfl⟩)
  | 4, _ => exact (show Good (some (0, [.sl ((nmkl.take 3).map sRow), .sl (gs.map Gu.row)])) _ from Good.ret ⟨nmkl.take 3, gs, by decide, hg, ho, rfl⟩)
  | 5, _ => exact (show Good (some (0, [.sl ((nmkl.take 4).map sRow), .sl (gs.map Gu.row)])) _ from Good.ret ⟨nmkl.take 4, gs, by decide, hg, ho, rfl⟩)
theorem sameInts_ok {a : Rows} (ha : a.length ≤ 1073741824) : rn ⟨14, 0, 0⟩ [.sl a, .sl a] = some (0, [.bool true]) := by
  show run H Try.prog _ _ = _
  rw [run_eq, g14_0_0_eq, g14_0_0]
  have hk : ∀ (k i : Nat), i + k = a.length → run H Try.prog ⟨14, 0, 1⟩ [.sl a, .sl a, .int (i : Int)] = some (0, []) := by
    intro k
    induction k with
    | zero =>
      intro i hi
      rw [run_eq, g14_0_1_eq, g14_0_1]
      rw [decide_eq_false (by omega : ¬ (i : Int) < (a.length : Int))]; rfl
    | succ k ih =>
      intro i hi
      rw [run_eq, g14_0_1_eq, g14_0_1]
      rw [decide_eq_true (by omega : (i : Int) < (a.length : Int))]
      simp only [cond_true, inbN, show i < a.length from by omega, decide_true, Bool.not_true, cond_false, wrap_succ (show i < a.length from by omega) (by unfold maxLen; omega)]
      exact ih _ (by omega)
  have h0 := hk a.length 0 (by omega)
  rw [Int.natCast_zero] at h0
  simp only [decide_true, Bool.not_true, cond_false, h0, Option.bind_some, Nat.beq_refl, cond_true]
theorem l13Ints_ok {a : Rows} (ha : a.length ≤ 1073741824) : rn ⟨149, 0, 0⟩ [.sl a, .sl a] = some (0, [.bool true]) := by
  show run H Try.prog _ _ = _
  rw [run_eq, g149_0_0_eq, g149_0_0]
  have hk : ∀ (k i : Nat), i + k = a.length → run H Try.prog ⟨149, 0, 1⟩ [.sl a, .sl a, .int (i : Int)] = some (0, []) := by
    intro k
    induction k with
    | zero =>
      intro i hi
      rw [run_eq, g149_0_1_eq, g149_0_1]
      rw [decide_eq_false (by omega : ¬ (i : Int) < (a.length : Int))]; rfl
    | succ k ih =>
      intro i hi
      rw [run_eq, g149_0_1_eq, g149_0_1]
      rw [decide_eq_true (by omega : (i : Int) < (a.length : Int))]
      simp only [cond_true, inbN, show i < a.length from by omega, decide_true, Bool.not_true, cond_false, wrap_succ (show i < a.length from by omega) (by unfold maxLen; omega)]
      exact ih _ (by omega)
  have h0 := hk a.length 0 (by omega)
  rw [Int.natCast_zero] at h0
  simp only [decide_true, Bool.not_true, cond_false, h0, Option.bind_some, Nat.beq_refl, cond_true]
theorem climbs_ok {a : List Nat} (ha : a.length ≤ 1073741824) (hs : ∀ i (h : i + 1 < a.length), a[i] < a[i + 1]) : rn ⟨22, 0, 0⟩ [.sl (a.map nRow)] = some (0, [.bool true]) := by
  show run H Try.prog _ _ = _
  rw [run_eq, g22_0_0_eq, g22_0_0]
  have hk : ∀ (k i : Nat), a.length ≤ i + k → run H Try.prog ⟨22, 0, 1⟩ [.sl (a.map nRow), .int ((i + 1 : Nat) : Int)] = some (0, []) := by
    intro k
    induction k with
    | zero =>
      intro i hi
      rw [run_eq, g22_0_1_eq, g22_0_1]
      rw [List.length_map, decide_eq_false (by omega : ¬ ((i + 1 : Nat) : Int) < (a.length : Int))]; rfl
    | succ k ih =>
      intro i hi
      rw [run_eq, g22_0_1_eq, g22_0_1]
      by_cases h : i + 1 < a.length
      · rw [List.length_map, decide_eq_true (by omega : ((i + 1 : Nat) : Int) < (a.length : Int))]
        have hw : IntKind.i64.wrap (((i + 1 : Nat) : Int) - 1) = (i : Int) := by
          unfold IntKind.wrap; simp [IntKind.bits, IntKind.signed]; omega
        have hlt := hs i h
        simp only [cond_true, hw, inbN, show i < a.length from by omega, h, decide_true, Int.toNat_natCast, rowAt_map h, rowAt_map (show i < a.length from by omega), nRow, nth, List.getD_cons_zero, List.getD_cons_succ, D.I, D.S, D.L, D.B, wrap_succ h (by unfold maxLen; omega)]
        rw [decide_eq_false (by omega : ¬ (a[i + 1] : Int) ≤ (a[i] : Int))]
        exact ih (i + 1) (by omega)
      · rw [List.length_map, decide_eq_false (by omega : ¬ ((i + 1 : Nat) : Int) < (a.length : Int))]; rfl
  have h0 := hk a.length 0 (by omega)
  simp only [Nat.zero_add, Int.natCast_one] at h0
  simp only [h0, Option.bind_some, Nat.beq_refl, cond_true]
theorem binds_ok {l : List Bnd} (hl : l.length ≤ 1048576) (hs : ∀ b ∈ l, Small b.2) : rn ⟨150, 0, 0⟩ [.sl (l.map Bnd.row), .sl (l.map Bnd.row)] = some (0, [.bool true]) := by
  show run H Try.prog _ _ = _
  rw [run_eq, g150_0_0_eq, g150_0_0]
  have hk : ∀ (k i : Nat), i + k = l.length → run H Try.prog ⟨150, 0, 1⟩ [.sl (l.map Bnd.row), .sl (l.map Bnd.row), .int (i : Int)] = some (0, []) := by
    intro k
    induction k with
    | zero =>
      intro i hi
      rw [run_eq, g150_0_1_eq, g150_0_1]
      rw [List.length_map, decide_eq_false (by omega : ¬ (i : Int) < (l.length : Int))]; rfl
    | succ k ih =>
      intro i hi
      have hlt : i < l.length := by omega
      rw [run_eq, g150_0_1_eq, g150_0_1]
      rw [List.length_map, decide_eq_true (by omega : (i : Int) < (l.length : Int))]
      have he := r61 l[i].2 l[i].2 (hs _ (List.getElem_mem hlt))
      simp only [rn, eqb_refl] at he
      simp only [cond_true, inbN, hlt, decide_true, Int.toNat_natCast, rowAt_map hlt, bd_row, nth, List.getD_cons_zero, List.getD_cons_succ, D.I, D.S, D.L, D.B, Bool.not_true, cond_false, he, Option.bind_some, wrap_succ hlt (by unfold maxLen; omega)]
      exact ih _ (by omega)
  have h0 := hk l.length 0 (by omega)
  rw [Int.natCast_zero] at h0
  simp only [decide_true, Bool.not_true, cond_false, h0, Option.bind_some, Nat.beq_refl, cond_true]
theorem sameBinds_ok {l : List Bnd} (hl : l.length ≤ 1048576) (hs : ∀ b ∈ l, Small b.2) : rn ⟨23, 0, 0⟩ [.sl (l.map Bnd.row), .sl (l.map Bnd.row)] = some (0, [.bool true]) := by
  show run H Try.prog _ _ = _
  rw [run_eq, g23_0_0_eq, g23_0_0]
  have hi := l13Ints_ok (a := []) (by simp)
  have hb := binds_ok hl hs
  simp only [rn] at hi hb
  have h1 : run H Try.prog ⟨90, 0, 1⟩ [.int 1, .sl [[.int 0, .sl [], .int 0, .sl (l.map Bnd.row)]], .sl [[.int 0, .sl [], .int 0, .sl (l.map Bnd.row)]]] = some (0, []) := by
    rw [run_eq, g90_0_1_eq, g90_0_1]
    rfl
  have h0 : run H Try.prog ⟨90, 0, 1⟩ [.int 0, .sl [[.int 0, .sl [], .int 0, .sl (l.map Bnd.row)]], .sl [[.int 0, .sl [], .int 0, .sl (l.map Bnd.row)]]] = some (0, []) := by
    rw [run_eq, g90_0_1_eq, g90_0_1]
    simp only [List.length_cons, List.length_nil, decide_true, show decide ((0 : Int) < ((0 + 1 : Nat) : Int)) = true from rfl, show inb 0 (0 + 1) = true from rfl, show Int.toNat 0 = 0 from rfl, rowAt, nth, List.getD_cons_zero, List.getD_cons_succ, D.I, D.S, D.L, D.B, cond_true, Bool.not_true, cond_false, hi, hb, Option.bind_some, show IntKind.i64.wrap (0 + 1) = 1 from rfl, h1]
  have hq : run H Try.prog ⟨90, 0, 0⟩ [.sl [[.int 0, .sl [], .int 0, .sl (l.map Bnd.row)]], .sl [[.int 0, .sl [], .int 0, .sl (l.map Bnd.row)]]] = some (0, [.bool true]) := by
    rw [run_eq, g90_0_0_eq, g90_0_0]
    simp only [decide_true, Bool.not_true, cond_false, h0, Option.bind_some, Nat.beq_refl, cond_true]
  simp only [hq, Option.bind_some, nth, List.getD_cons_zero, List.getD_cons_succ, D.I, D.S, D.L, D.B]
end Go.Q.S
