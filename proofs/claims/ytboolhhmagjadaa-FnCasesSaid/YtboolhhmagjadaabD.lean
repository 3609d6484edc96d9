/- The functions of this seat, as that machine runs them. -/
import Derived.Test.YtboolhhmagjadaabG
import Derived.Test.YtboolhhmagjadaaM4
set_option linter.unusedVariables false
set_option linter.unusedSimpArgs false
namespace Go.Q.S
open Go Go.Q Go.Proofs
theorem byte_ok {code : Rows} (hl : code.length ≤ 1048576) (i : Nat) (h : Int) : Good (rn ⟨143, 0, 0⟩ [.sl code, .int (i : Int), .int h]) fun x => ∃ b : Int, ∃ i' : Nat, ∃ h' : Int, 0 ≤ b ∧ b ≤ 255 ∧ x = (0, [.int b, .sl code, .int ((i' : Nat) : Int), .int h']) := by
  show Good (run H Try.prog _ _) _
  rw [run_eq, g143_0_0_eq, g143_0_0]
  rw [decide_eq_true (by decide : (0 : Int) ≤ 33), decide_eq_true (by decide : (0 : Int) ≤ 45)]
  simp only [cond_true]
  by_cases hi : i < code.length
  · rw [decide_eq_true (by omega : (i : Int) < (code.length : Int))]
    simp only [cond_true, inbN, hi, decide_true, wrap_succ hi (by unfold maxLen; omega)]
    obtain ⟨h1, h2⟩ := and255 (IntKind.i64.wrap ((andI .i64 (xorI .i64 (shrI .i64 (IntKind.i64.wrap ((IntKind.i64.wrap (h * 6364136223846793005)) + 1442695040888963407)) 33) (shrI .i64 (IntKind.i64.wrap ((IntKind.i64.wrap (h * 6364136223846793005)) + 1442695040888963407)) 45)) 255) + (IntKind.i64.wrap ((nth (rowAt code (Int.toNat (i : Int))) 0).I))))
    exact Good.ret ⟨_, i + 1, _, h1, h2, rfl⟩
  · rw [decide_eq_false (by omega : ¬ (i : Int) < (code.length : Int))]
    simp only [cond_false]
    obtain ⟨h1, h2⟩ := and255 (xorI .i64 (shrI .i64 (IntKind.i64.wrap ((IntKind.i64.wrap (h * 6364136223846793005)) + 1442695040888963407)) 33) (shrI .i64 (IntKind.i64.wrap ((IntKind.i64.wrap (h * 6364136223846793005)) + 1442695040888963407)) 45))
    exact Good.ret ⟨_, i, _, h1, h2, rfl⟩
theorem below_ok {code : Rows} (hl : code.length ≤ 1048576) (i : Nat) (h : Int) {n : Int} (h0 : 0 < n) (h1 : n ≤ 256) : Good (rn ⟨81, 0, 0⟩ [.int n, .sl code, .int (i : Int), .int h]) fun x => ∃ b : Int, ∃ i' : Nat, ∃ h' : Int, 0 ≤ b ∧ b < n ∧ x = (0, [.int b, .sl code, .int ((i' : Nat) : Int), .int h']) := by
  show Good (run H Try.prog _ _) _
  rw [run_eq, g81_0_0_eq, g81_0_0]
  rw [decide_eq_false (by omega : ¬ n ≤ 0), decide_eq_true h1]
  simp only [cond_true, cond_false]
  refine Good.bind (byte_ok hl i h) ?_
  rintro _ ⟨b, i', h', b0, b1, rfl⟩
  simp only [nth, List.getD_cons_zero, List.getD_cons_succ, D.I, D.S, D.L, D.B]
  rw [decide_eq_false (by omega : ¬ n = 0)]
  exact Good.ret ⟨_, i', h', Int.tmod_nonneg _ b0, Int.tmod_lt_of_pos _ h0, rfl⟩
theorem once_ok {code : Rows} (hl : code.length ≤ 1048576) (i : Nat) (h : Int) {n : Int} (h0 : 0 < n) (h1 : n ≤ 256) : Good (rn ⟨122, 0, 0⟩ [.int n, .sl code, .int (i : Int), .int h]) fun x => ∃ b : Bool, ∃ i' : Nat, ∃ h' : Int, x = (0, [.bool b, .sl code, .int ((i' : Nat) : Int), .int h']) := by
  show Good (run H Try.prog _ _) _
  rw [run_eq, g122_0_0_eq, g122_0_0]
  refine Good.bind (below_ok hl i h h0 h1) ?_
  rintro _ ⟨b, i', h', b0, b1, rfl⟩
  exact Good.ret ⟨_, i', h', rfl⟩
theorem pick_ok {code : Rows} (hl : code.length ≤ 1048576) (i : Nat) (h : Int) {l : Rows} (h0 : 0 < l.length) (h1 : l.length ≤ 256) : Good (rn ⟨167, 0, 0⟩ [.sl l, .sl code, .int (i : Int), .int h]) fun x => ∃ s : ByteArray, ∃ i' : Nat, ∃ h' : Int, x = (0, [.str s, .sl code, .int ((i' : Nat) : Int), .int h']) := by
  show Good (run H Try.prog _ _) _
  rw [run_eq, g167_0_0_eq, g167_0_0]
  refine Good.bind (below_ok hl i h (by omega : (0 : Int) < (l.length : Int)) (by omega)) ?_
  rintro _ ⟨b, i', h', b0, b1, rfl⟩
  simp only [nth, List.getD_cons_zero, List.getD_cons_succ, D.I, D.S, D.L, D.B]
  rw [show inb b l.length = true from by simp [inb, b0, b1]]
  exact Good.ret ⟨_, i', h', rfl⟩
theorem pickInt_ok {code : Rows} (hl : code.length ≤ 1048576) (i : Nat) (h : Int) {l : Rows} (h0 : 0 < l.length) (h1 : l.length ≤ 256) : Good (rn ⟨86, 0, 0⟩ [.sl l, .sl code, .int (i : Int), .int h]) fun x => ∃ k : Nat, ∃ i' : Nat, ∃ h' : Int, k < l.length ∧ x = (0, [.int ((nth (rowAt l k) 0).I), .sl code, .int ((i' : Nat) : Int), .int h']) := by
  show Good (run H Try.prog _ _) _
  rw [run_eq, g86_0_0_eq, g86_0_0]
  refine Good.bind (below_ok hl i h (by omega : (0 : Int) < (l.length : Int)) (by omega)) ?_
  rintro _ ⟨b, i', h', b0, b1, rfl⟩
  simp only [nth, List.getD_cons_zero, List.getD_cons_succ, D.I, D.S, D.L, D.B]
  rw [show inb b l.length = true from by simp [inb, b0, b1]]
  exact Good.ret ⟨b.toNat, i', h', by omega, rfl⟩
theorem r137 (s : ByteArray) : rn ⟨137, 0, 0⟩ [.str s] = some (0, [.int 1, .int 0, .str s, .sl []]) := by
  show run H Try.prog _ _ = _
  rw [run_eq, g137_0_0_eq, g137_0_0]
theorem r176 (s : ByteArray) (l : Rows) : rn ⟨176, 0, 0⟩ [.str s, .sl l] = some (0, [.int 2, .int 0, .str s, .sl l]) := by
  show run H Try.prog _ _ = _
  rw [run_eq, g176_0_0_eq, g176_0_0]
theorem r168 (s : ByteArray) (t : Tm) : rn ⟨168, 0, 0⟩ [.str s, .int t.k, .int t.n, .str t.s, .sl (t.as.map Tm.row)] = some (0, [.int 2, .int 0, .str s, .sl [t.row]]) := by
  show run H Try.prog _ _ = _
  rw [run_eq, g168_0_0_eq, g168_0_0]
  rw [Tm.row_eq]
  have h := r176 s [[.int t.k, .int t.n, .str t.s, .sl (t.as.map Tm.row)]]
  simp only [rn] at h
  rw [h]; rfl
theorem r175 (s : ByteArray) (t u : Tm) : rn ⟨175, 0, 0⟩ [.str s, .int t.k, .int t.n, .str t.s, .sl (t.as.map Tm.row), .int u.k, .int u.n, .str u.s, .sl (u.as.map Tm.row)] = some (0, [.int 2, .int 0, .str s, .sl [t.row, u.row]]) := by
  show run H Try.prog _ _ = _
  rw [run_eq, g175_0_0_eq, g175_0_0]
  rw [Tm.row_eq t, Tm.row_eq u]
  have h := r176 s [[.int t.k, .int t.n, .str t.s, .sl (t.as.map Tm.row)], [.int u.k, .int u.n, .str u.s, .sl (u.as.map Tm.row)]]
  simp only [rn] at h
  rw [h]; rfl
theorem z137 (s : ByteArray) : run H Try.prog ⟨137, 0, 0⟩ [.str s] = some (0, [.int 1, .int 0, .str s, .sl []]) := r137 s
theorem z176 (s : ByteArray) (l : Rows) : run H Try.prog ⟨176, 0, 0⟩ [.str s, .sl l] = some (0, [.int 2, .int 0, .str s, .sl l]) := r176 s l
theorem z168 (s : ByteArray) (t : Tm) : run H Try.prog ⟨168, 0, 0⟩ [.str s, .int t.k, .int t.n, .str t.s, .sl (t.as.map Tm.row)] = some (0, [.int 2, .int 0, .str s, .sl [t.row]]) := r168 s t
theorem z175 (s : ByteArray) (t u : Tm) : run H Try.prog ⟨175, 0, 0⟩ [.str s, .int t.k, .int t.n, .str t.s, .sl (t.as.map Tm.row), .int u.k, .int u.n, .str u.s, .sl (u.as.map Tm.row)] = some (0, [.int 2, .int 0, .str s, .sl [t.row, u.row]]) := r175 s t u
theorem z91 (n : Int) : run H Try.prog ⟨91, 0, 0⟩ [.int n] = some (0, [.int 3, .int n, .str ⟨#[]⟩, .sl []]) := r91 n
theorem word_ok {code : Rows} (hl : code.length ≤ 1048576) : ∀ (d : Nat) (g : Bool) (i : Nat) (h : Int), d ≤ 64 → Good (rn ⟨144, 0, 0⟩ [.str (⟨#[119, 111, 114, 100]⟩ : ByteArray), .int (d : Int), .bool g, .sl code, .int (i : Int), .int h]) (DT code (4 ^ d)) := by
  intro d
  induction d with
  | zero =>
    intro g i h hd
    show Good (run H Try.prog _ _) _
    rw [run_eq, g144_0_0_eq, g144_0_0]
    rw [decide_eq_true (rfl : (⟨#[119, 111, 114, 100]⟩ : ByteArray) = (⟨#[119, 111, 114, 100]⟩ : ByteArray)), decide_eq_false (by decide : ¬ (1 : Int) < ((0 : Nat) : Int))]
    simp only [cond_true, cond_false]
    repeat' (first
      | refine Good.ite (fun _ => ?_) (fun _ => ?_)
      | (refine Good.bind (once_ok hl _ _ (by decide) (by decide)) ?_; rintro _ ⟨b, i, h, rfl⟩; simp only [nth, List.getD_cons_zero, List.getD_cons_succ, D.I, D.S, D.L, D.B])
      | (refine Good.bind (below_ok hl _ _ (by decide) (by decide)) ?_; rintro _ ⟨b, i, h, _, _, rfl⟩; simp only [nth, List.getD_cons_zero, List.getD_cons_succ, D.I, D.S, D.L, D.B])
      | (refine Good.bind (pick_ok hl _ _ (by decide) (by decide)) ?_; rintro _ ⟨b, i, h, rfl⟩; simp only [nth, List.getD_cons_zero, List.getD_cons_succ, D.I, D.S, D.L, D.B])
      | (simp only [z137, z91, Option.bind_some, nth, List.getD_cons_zero, List.getD_cons_succ, D.I, D.S, D.L, D.B])
      | (simp only [z176, z168, z175, Option.bind_some, nth, List.getD_cons_zero, List.getD_cons_succ, D.I, D.S, D.L, D.B]))
    all_goals (first | exact leafV (by omega) | exact leafC (by omega) | exact leafW (by omega) | exact leaf1 (by omega) | exact leaf2 (by omega))
  | succ d ih =>
    intro g i h hd
    have hp : 4 ^ (d + 1) = 4 * 4 ^ d := by omega
    have h1 : 1 ≤ 4 ^ d := Nat.one_le_pow _ _ (by decide)
    show Good (run H Try.prog _ _) _
    rw [run_eq, g144_0_0_eq, g144_0_0]
    rw [decide_eq_true (rfl : (⟨#[119, 111, 114, 100]⟩ : ByteArray) = (⟨#[119, 111, 114, 100]⟩ : ByteArray))]
    simp only [cond_true, wrap_dec (show d ≤ 64 by omega)]
    repeat' (first | (refine Good.bind (ih _ _ _ (by omega)) ?_; rintro _ ⟨t, i, h, _, rfl⟩; simp only [nth, List.getD_cons_zero, List.getD_cons_succ, D.I, D.S, D.L, D.B]) | (first
      | refine Good.ite (fun _ => ?_) (fun _ => ?_)
      | (refine Good.bind (once_ok hl _ _ (by decide) (by decide)) ?_; rintro _ ⟨b, i, h, rfl⟩; simp only [nth, List.getD_cons_zero, List.getD_cons_succ, D.I, D.S, D.L, D.B])
      | (refine Good.bind (below_ok hl _ _ (by decide) (by decide)) ?_; rintro _ ⟨b, i, h, _, _, rfl⟩; simp only [nth, List.getD_cons_zero, List.getD_cons_succ, D.I, D.S, D.L, D.B])
      | (refine Good.bind (pick_ok hl _ _ (by decide) (by decide)) ?_; rintro _ ⟨b, i, h, rfl⟩; simp only [nth, List.getD_cons_zero, List.getD_cons_succ, D.I, D.S, D.L, D.B])
      | (simp only [z137, z91, Option.bind_some, nth, List.getD_cons_zero, List.getD_cons_succ, D.I, D.S, D.L, D.B])
      | (simp only [z176, z168, z175, Option.bind_some, nth, List.getD_cons_zero, List.getD_cons_succ, D.I, D.S, D.L, D.B])))
    all_goals (first | exact leafV (by omega) | exact leafC (by omega) | exact leafW (by omega) | exact leaf1 (by omega) | exact leaf2 (by omega))
theorem term_ok {code : Rows} (hl : code.length ≤ 1048576) {s : ByteArray} (hs : s ≠ (⟨#[119, 111, 114, 100]⟩ : ByteArray)) : ∀ (d : Nat) (g : Bool) (i : Nat) (h : Int), d ≤ 64 → Good (rn ⟨144, 0, 0⟩ [.str s, .int (d : Int), .bool g, .sl code, .int (i : Int), .int h]) (DT code (8 * 4 ^ d)) := by
  have hE : (⟨#[101]⟩ : ByteArray) ≠ (⟨#[119, 111, 114, 100]⟩ : ByteArray) := by decide
  have hW1 : ∀ g i h, Good (run H Try.prog ⟨144, 0, 0⟩ [.str (⟨#[119, 111, 114, 100]⟩ : ByteArray), .int 1, .bool g, .sl code, .int ((i : Nat) : Int), .int h]) (DT code 4) := fun g i h => word_ok hl 1 g i h (by decide)
  intro d
  induction d generalizing s with
  | zero =>
    intro g i h hd
    show Good (run H Try.prog _ _) _
    rw [run_eq, g144_0_0_eq, g144_0_0]
    rw [decide_eq_false hs, decide_eq_true (by decide : ((0 : Nat) : Int) < 2)]
    simp only [cond_true, cond_false]
    repeat' (first | (refine Good.bind (hW1 _ _ _) ?_; rintro _ ⟨t, i, h, _, rfl⟩; simp only [nth, List.getD_cons_zero, List.getD_cons_succ, D.I, D.S, D.L, D.B]) | (first
      | refine Good.ite (fun _ => ?_) (fun _ => ?_)
      | (refine Good.bind (once_ok hl _ _ (by decide) (by decide)) ?_; rintro _ ⟨b, i, h, rfl⟩; simp only [nth, List.getD_cons_zero, List.getD_cons_succ, D.I, D.S, D.L, D.B])
      | (refine Good.bind (below_ok hl _ _ (by decide) (by decide)) ?_; rintro _ ⟨b, i, h, _, _, rfl⟩; simp only [nth, List.getD_cons_zero, List.getD_cons_succ, D.I, D.S, D.L, D.B])
      | (refine Good.bind (pick_ok hl _ _ (by decide) (by decide)) ?_; rintro _ ⟨b, i, h, rfl⟩; simp only [nth, List.getD_cons_zero, List.getD_cons_succ, D.I, D.S, D.L, D.B])
      | (simp only [z137, z91, Option.bind_some, nth, List.getD_cons_zero, List.getD_cons_succ, D.I, D.S, D.L, D.B])
      | (simp only [z176, z168, z175, Option.bind_some, nth, List.getD_cons_zero, List.getD_cons_succ, D.I, D.S, D.L, D.B])))
    all_goals (first | exact leafV (by omega) | exact leafC (by omega) | exact leafW (by omega) | exact leaf1 (by omega) | exact leaf2 (by omega))
  | succ d ih =>
    intro g i h hd
    have hp : 4 ^ (d + 1) = 4 * 4 ^ d := by omega
    have h1 : 1 ≤ 4 ^ d := Nat.one_le_pow _ _ (by decide)
    show Good (run H Try.prog _ _) _
    rw [run_eq, g144_0_0_eq, g144_0_0]
    rw [decide_eq_false hs]
    simp only [cond_false, wrap_dec (show d ≤ 64 by omega)]
    repeat' (first | (refine Good.bind (hW1 _ _ _) ?_; rintro _ ⟨t, i, h, _, rfl⟩; simp only [nth, List.getD_cons_zero, List.getD_cons_succ, D.I, D.S, D.L, D.B]) | (refine Good.bind (ih hE _ _ _ (by omega)) ?_; rintro _ ⟨t, i, h, _, rfl⟩; simp only [nth, List.getD_cons_zero, List.getD_cons_succ, D.I, D.S, D.L, D.B]) | (refine Good.bind (word_ok hl d _ _ _ (by omega)) ?_; rintro _ ⟨t, i, h, _, rfl⟩; simp only [nth, List.getD_cons_zero, List.getD_cons_succ, D.I, D.S, D.L, D.B]) | (first
      | refine Good.ite (fun _ => ?_) (fun _ => ?_)
      | (refine Good.bind (once_ok hl _ _ (by decide) (by decide)) ?_; rintro _ ⟨b, i, h, rfl⟩; simp only [nth, List.getD_cons_zero, List.getD_cons_succ, D.I, D.S, D.L, D.B])
      | (refine Good.bind (below_ok hl _ _ (by decide) (by decide)) ?_; rintro _ ⟨b, i, h, _, _, rfl⟩; simp only [nth, List.getD_cons_zero, List.getD_cons_succ, D.I, D.S, D.L, D.B])
      | (refine Good.bind (pick_ok hl _ _ (by decide) (by decide)) ?_; rintro _ ⟨b, i, h, rfl⟩; simp only [nth, List.getD_cons_zero, List.getD_cons_succ, D.I, D.S, D.L, D.B])
      | (simp only [z137, z91, Option.bind_some, nth, List.getD_cons_zero, List.getD_cons_succ, D.I, D.S, D.L, D.B])
      | (simp only [z176, z168, z175, Option.bind_some, nth, List.getD_cons_zero, List.getD_cons_succ, D.I, D.S, D.L, D.B])))
    all_goals (first | exact leafV (by omega) | exact leafC (by omega) | exact leafW (by omega) | exact leaf1 (by omega) | exact leaf2 (by omega))
end Go.Q.S
