/- The functions of this seat, walked in that logic. -/
import Derived.Test.YtmahppdampmpfaaT10
import Derived.Test.YtmahppdampmpfaaRF22
set_option linter.unusedVariables false
namespace Go.RF
mutual
/-- All names and rows are at most this long. -/
def Tm.ok (B : Nat) : Tm → Prop
  | .mk k n s xs => s.size ≤ B ∧ xs.length ≤ B ∧ Tms.ok B xs
def Tms.ok (B : Nat) : List Tm → Prop
  | [] => True
  | x :: xs => x.ok B ∧ Tms.ok B xs
end
theorem Tms.ok_mem {B : Nat} : ∀ {xs : List Tm}, Tms.ok B xs → ∀ x ∈ xs, x.ok B
  | [], _, x, h => by simp at h
  | y :: ys, h, x, hx => by
    simp only [Tms.ok] at h
    rcases List.mem_cons.1 hx with rfl | hx
    · exact h.1
    · exact Tms.ok_mem h.2 x hx
theorem Tm.ok_mk {B : Nat} {k n : Int} {s : ByteArray} {xs : List Tm} (h : (Tm.mk k n s xs).ok B) : s.size ≤ B ∧ xs.length ≤ B ∧ ∀ x ∈ xs, x.ok B := by
  rw [Tm.ok] at h
  exact ⟨h.1, h.2.1, Tms.ok_mem h.2.2⟩
mutual
theorem sz_ok : ∀ (x : Tm) (l : Int), 0 ≤ l → l ≤ 1048576 → 0 ≤ sz x l → x.ok 1048576
  | .mk k n s xs, l, h0, h1, h => by
    rw [sz] at h
    split at h
    · omega
    · split at h
      · omega
      · split at h
        · omega
        · rw [Tm.ok]
          exact ⟨by omega, by omega, szL_ok xs (l - s.size - xs.length) (by omega) (by omega) (by omega)⟩
theorem szL_ok : ∀ (xs : List Tm) (l : Int), 0 ≤ l → l ≤ 1048576 → 0 ≤ szL xs l → Tms.ok 1048576 xs
  | [], l, h0, h1, h => by rw [Tms.ok]; trivial
  | x :: xs, l, h0, h1, h => by
    rw [szL] at h
    have hl := S.sz_le x l h0
    split at h
    · omega
    · rw [Tms.ok]
      exact ⟨sz_ok x l h0 h1 (by omega), szL_ok xs (sz x l) (by omega) (by omega) h⟩
end
end Go.RF
namespace Go.RF.S
open Go Go.Proofs Go.RF

theorem pc14 : ∀ (x : Tm), x.ok 9223372036854775807 → ∀ l, 0 ≤ l → l ≤ 1048576 → PC Try.prog 14 ([vT x, vI l].map .val) [vI (sz x l)] []
  | .mk k n s xs, hx, l, h0, h1 => by
    obtain ⟨q1, q2, q3⟩ := Tm.ok_mk hx
    exact w14 k n s xs l h0 h1 q1 fun l h0 h1 => w45 xs l h0 h1 q2 fun x hm l h0 h1 => pc14 x (q3 x hm) l h0 h1
theorem pc16 : ∀ (x : Tm), x.ok 1048576 → PC Try.prog 16 ([vT x].map .val) [vT x] []
  | .mk k n s xs, hx => by
    obtain ⟨q1, q2, q3⟩ := Tm.ok_mk hx
    exact w16 k n s xs (w46 xs q2 fun x hm => pc16 x (q3 x hm))
theorem pc18 : ∀ (x y : Tm), x.ok 1048576 → PC Try.prog 18 ([vT x, vT y].map .val) [vB (eqT x y)] []
  | .mk k n s xs, .mk k' n' s' xs', hx => by
    obtain ⟨q1, q2, q3⟩ := Tm.ok_mk hx
    exact w18 k n s xs k' n' s' xs' (w49 xs xs' (by omega) fun x hm y hm' => pc18 x y (q3 x hm))
theorem pc15 (a : ByteArray) : ∀ (x : Tm), x.ok 1048576 → PC Try.prog 15 ([vT x, vS a].map .val) [vB (hasOp a x)] []
  | .mk k n s xs, hx => by
    obtain ⟨q1, q2, q3⟩ := Tm.ok_mk hx
    exact w15 a k n s xs (by omega) fun x hm => pc15 a x (q3 x hm)
theorem pc17 (a : ByteArray) : ∀ (x : Tm), x.ok 1048576 → PC Try.prog 17 ([vT x, vS a].map .val) [vB (hasOp a x)] []
  | .mk k n s xs, hx => by
    obtain ⟨q1, q2, q3⟩ := Tm.ok_mk hx
    exact w17 a k n s xs (w47 xs 48 [.ptr [.raw (.string a)]] (hasOp a) (w84 xs (by omega) (hasOp a) 48 Try.f48 [.ptr [.raw (.string a)]] Try.func48 rfl fun x hm => w48 a x (pc17 a x (q3 x hm))))
end Go.RF.S
