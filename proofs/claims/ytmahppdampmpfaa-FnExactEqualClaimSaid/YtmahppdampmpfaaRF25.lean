/- A logic over the walk in which memory is hidden, part 25: rows in general. -/
import Derived.Test.YtmahppdampmpfaaRF24
set_option linter.unusedVariables false
namespace Go.RF

/-- Rows with the data of a list's elements. -/
def vRows {α : Type} (ds : α → List D) (w : Nat) (xs : List α) : V := .one (.v (.sl w (xs.map ds)) false false)
/-- A record's cells in a slot. -/
def vRec {α : Type} (ds : α → List D) (x : α) : V := .agg ((ds x).map dv)
def vI (n : Int) : V := .one (.v (.raw (.int .i64 n)) false true)
def vB (b : Bool) : V := .one (.v (.raw (.bool b)) false true)
def vS (s : ByteArray) : V := .one (.v (.raw (.string s)) false true)
def vF (f : FuncId) (caps : List D) : V := .one (.v (.fn f caps) false false)
theorem dv_raw (v : Value) : dv (.raw v) = .v (.raw v) false true := rfl
theorem dv_sl (w : Nat) (es : List (List D)) : dv (.sl w es) = .v (.sl w es) false false := rfl
theorem dv_ptr (ds : List D) : dv (.ptr ds) = .v (.ptr ds) false false := rfl
theorem dv_fn (f : FuncId) (ds : List D) : dv (.fn f ds) = .v (.fn f ds) false false := rfl
theorem dOf_v (d : D) (c o : Bool) : dOf (.v d c o) = some d := rfl
theorem dOf_dv_some (d : D) : (dOf (dv d)).isSome = true := by cases d <;> rfl
theorem isBp_v (j : Nat) (d : D) (c o : Bool) : isBp j (.v d c o) = false := rfl
theorem isBp_bp (j k off : Nat) : isBp j (.bp k off) = (k == j) := rfl
theorem isBp_bs (j k n : Nat) : isBp j (.bs k n) = (k == j) := rfl
theorem map_dr_dv (l : List D) : (l.map dv).map dr = l.map dv := by
  rw [List.map_map]; congr 1; funext d; exact dv_dr d
theorem map_dr_dv' (l : List D) : l.map (dr ∘ dv) = l.map dv := by
  congr 1; funext d; exact dv_dr d
theorem ACsle_refl (l : List AC) : ACsle l l = True := eq_true (ACsle.refl l)
theorem dv_cow (d : D) : ((dv d).cap || (dv d).ow) = false := by cases d <;> rfl
theorem wantR_dv (l : List D) : wantR (.agg (l.map dv)) = false := by
  unfold wantR
  simp only [V.acs]
  rw [List.any_eq_false]
  intro c hc
  obtain ⟨d, _, rfl⟩ := List.mem_map.1 hc
  rw [dv_cow]; simp
theorem wantR_fn (f : FuncId) (ds : List D) : wantR (.one (.v (.fn f ds) false false)) = false := rfl

/-- A row that is being filled. -/
def mkR {α : Type} (ds : α → List D) (z : List AC) (xs : List α) (i : Nat) : List AC := (xs.take i).flatMap (fun x => (ds x).map dv) ++ (List.replicate (xs.length - i) z).flatten
theorem dsOf_append : ∀ (a b : List AC) (x y : List D), dsOf a = some x → dsOf b = some y → dsOf (a ++ b) = some (x ++ y)
  | [], b, x, y, h1, h2 => by
    obtain rfl : [] = x := by simpa [dsOf] using h1
    exact h2
  | c :: a, b, x, y, h1, h2 => by
    simp only [dsOf] at h1
    split at h1
    · rename_i d ds hd hds
      obtain rfl : d :: ds = x := by simpa using h1
      simp only [List.cons_append, dsOf, hd, dsOf_append a b ds y hds h2]
    · simp at h1
theorem dsOf_dv : ∀ (l : List D), dsOf (l.map dv) = some l
  | [] => rfl
  | d :: l => by
    have : dOf (dv d) = some d := by cases d <;> rfl
    simp [dsOf, this, dsOf_dv l]
theorem spl_app {α : Type} : ∀ (pre ys mid post : List α), ys.length = mid.length → spl pre.length ys (pre ++ (mid ++ post)) = pre ++ (ys ++ post)
  | [], [], [], post, _ => by cases post <;> simp [spl]
  | [], y :: ys, m :: mid, post, h => by
    have := spl_app [] ys mid post (by simpa using h)
    simp only [List.nil_append, List.length_nil] at this
    simp [spl, this]
  | [], y :: ys, [], post, h => by simp at h
  | [], [], m :: mid, post, h => by simp at h
  | p :: pre, ys, mid, post, h => by
    simp only [List.length_cons, List.cons_append]
    cases ys with
    | nil => simp only [spl]; rw [spl_app pre [] mid post h]
    | cons y ys => simp only [spl]; rw [spl_app pre (y :: ys) mid post h]

section
variable {α : Type} {ds : α → List D} {w : Nat} {z : List AC}
theorem mkR_zero (xs : List α) : mkR ds z xs 0 = (List.replicate xs.length z).flatten := by simp [mkR]
theorem flatR_len (hw : ∀ x, (ds x).length = w) (ys : List α) : (ys.flatMap (fun x => (ds x).map dv)).length = ys.length * w := by
  induction ys with
  | nil => simp
  | cons y ys ih => rw [List.flatMap_cons, List.length_append, ih, List.length_map, hw, List.length_cons, Nat.succ_mul]; omega
theorem repR_len (hz : z.length = w) (n : Nat) : ((List.replicate n z).flatten).length = n * w := by
  rw [List.length_flatten]; simp [hz]
theorem mkR_len (hw : ∀ x, (ds x).length = w) (hz : z.length = w) (xs : List α) (i : Nat) (h : i ≤ xs.length) : (mkR ds z xs i).length = xs.length * w := by
  rw [mkR, List.length_append, flatR_len hw, repR_len hz, List.length_take, ← Nat.add_mul]
  congr 1; omega
theorem mkR_spl (hw : ∀ x, (ds x).length = w) (hz : z.length = w) (xs : List α) (i : Nat) (h : i < xs.length) : spl (i * w) ((ds xs[i]).map dv) (mkR ds z xs i) = mkR ds z xs (i + 1) := by
  have e1 : ((xs.take i).flatMap (fun x => (ds x).map dv)).length = i * w := by rw [flatR_len hw, List.length_take]; congr 1; omega
  have e2 : xs.length - i = (xs.length - (i + 1)) + 1 := by omega
  have e3 : mkR ds z xs i = (xs.take i).flatMap (fun x => (ds x).map dv) ++ (z ++ (List.replicate (xs.length - (i + 1)) z).flatten) := by
    rw [mkR, e2, List.replicate_succ, List.flatten_cons]
  rw [e3, ← e1, spl_app _ _ _ _ (by rw [List.length_map, hw, hz]), mkR, List.take_succ_eq_append_getElem h, List.flatMap_append]
  simp
theorem dsOf_mkR (xs : List α) : dsOf (mkR ds z xs xs.length) = some (xs.flatMap ds) := by
  have : ∀ ys : List α, dsOf (ys.flatMap (fun x => (ds x).map dv)) = some (ys.flatMap ds) := by
    intro ys
    induction ys with
    | nil => rfl
    | cons x xs ih =>
      rw [List.flatMap_cons, List.flatMap_cons]
      exact dsOf_append _ _ _ _ (dsOf_dv _) ih
  have e : mkR ds z xs xs.length = xs.flatMap (fun x => (ds x).map dv) := by simp [mkR]
  rw [e, this]
theorem chunk_R (hw : ∀ x, (ds x).length = w) : ∀ xs : List α, chunk w xs.length (xs.flatMap ds) = xs.map ds
  | [] => rfl
  | x :: xs => by
    have h := hw x
    rw [List.flatMap_cons, List.length_cons, chunk, List.map_cons, List.take_left' h, List.drop_left' h, chunk_R hw xs]

/-! ### folds along a list -/
/-- Sizes: what is left when all elements have been counted. -/
def szF (sz : α → Int → Int) : List α → Int → Int
  | [], l => l
  | x :: xs, l => if sz x l < 0 then -1 else szF sz xs (sz x l)
def szR (sz : α → Int → Int) (xs : List α) (l : Int) : Int := if l - xs.length < 0 then -1 else szF sz xs (l - xs.length)
theorem szF_drop (sz : α → Int → Int) (xs : List α) (i : Nat) (h : i < xs.length) (c : Int) : szF sz (xs.drop i) c = if sz xs[i] c < 0 then -1 else szF sz (xs.drop (i + 1)) (sz xs[i] c) := by
  rw [List.drop_eq_getElem_cons h, szF]
theorem szF_le (sz : α → Int → Int) (hsz : ∀ x l, 0 ≤ l → sz x l ≤ l) : ∀ (xs : List α) (l : Int), 0 ≤ l → szF sz xs l ≤ l
  | [], l, h => by rw [szF]; omega
  | x :: xs, l, h => by
    rw [szF]
    have h1 := hsz x l h
    split
    · omega
    · have := szF_le sz hsz xs (sz x l) (by omega); omega
def eqF (eq : α → α → Bool) : List α → List α → Bool
  | x :: xs, y :: ys => eq x y && eqF eq xs ys
  | _, _ => true
def eqR (eq : α → α → Bool) (xs ys : List α) : Bool := decide (xs.length = ys.length) && eqF eq xs ys
theorem eqF_drop (eq : α → α → Bool) (xs ys : List α) (i : Nat) (h : i < xs.length) (h' : i < ys.length) : eqF eq (xs.drop i) (ys.drop i) = (eq xs[i] ys[i] && eqF eq (xs.drop (i + 1)) (ys.drop (i + 1))) := by
  rw [List.drop_eq_getElem_cons h, List.drop_eq_getElem_cons h', eqF]
theorem eqF_self (eq : α → α → Bool) (h : ∀ x, eq x x = true) : ∀ xs : List α, eqF eq xs xs = true
  | [] => rfl
  | x :: xs => by simp [eqF, h x, eqF_self eq h xs]
end
end Go.RF
