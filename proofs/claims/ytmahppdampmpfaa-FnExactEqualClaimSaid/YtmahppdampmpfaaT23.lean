/- The functions of this seat, walked in that logic. -/
import Derived.Test.YtmahppdampmpfaaT22
set_option linter.unusedVariables false
namespace Go.RF
def Gd.ok (B : Nat) (g : Gd) : Prop := g.l.ok B ∧ g.r.ok B
structure Cl.ok (B : Nat) (c : Cl) : Prop where
  a : c.vs.length ≤ B
  b : ∀ s ∈ c.vs, s.size ≤ B
  l : c.l.ok B
  r : c.r.ok B
  d : c.gs.length ≤ B
  e : ∀ g ∈ c.gs, g.ok B
theorem szF_ok {α : Type} {sz : α → Int → Int} {Q : α → Prop} (hle : ∀ x l, 0 ≤ l → sz x l ≤ l) (h : ∀ x l, 0 ≤ l → l ≤ 1048576 → 0 ≤ sz x l → Q x) : ∀ (xs : List α) (l : Int), 0 ≤ l → l ≤ 1048576 → 0 ≤ szF sz xs l → ∀ x ∈ xs, Q x
  | [], l, h0, h1, h2, x, hx => by simp at hx
  | y :: ys, l, h0, h1, h2, x, hx => by
    rw [szF] at h2
    have h3 := hle y l h0
    split at h2
    · omega
    · rcases List.mem_cons.1 hx with rfl | hx
      · exact h x l h0 h1 (by omega)
      · exact szF_ok hle h ys (sz y l) (by omega) (by omega) h2 x hx
theorem szR_ok {α : Type} {sz : α → Int → Int} {Q : α → Prop} (hle : ∀ x l, 0 ≤ l → sz x l ≤ l) (h : ∀ x l, 0 ≤ l → l ≤ 1048576 → 0 ≤ sz x l → Q x) (xs : List α) (l : Int) (h0 : 0 ≤ l) (h1 : l ≤ 1048576) (h2 : 0 ≤ szR sz xs l) : xs.length ≤ 1048576 ∧ (∀ x ∈ xs, Q x) ∧ szR sz xs l ≤ l := by
  rw [szR] at h2 ⊢
  split at h2
  · omega
  · rename_i hn
    rw [if_neg hn]
    have := szF_le sz hle xs (l - xs.length) (by omega)
    exact ⟨by omega, szF_ok hle h xs (l - xs.length) (by omega) (by omega) h2, by omega⟩
theorem szR_le1 {α : Type} {sz : α → Int → Int} (hle : ∀ x l, 0 ≤ l → sz x l ≤ l) (xs : List α) (l : Int) (h0 : 0 ≤ l) : szR sz xs l ≤ l := by
  rw [szR]
  split
  · omega
  · have := szF_le sz hle xs (l - xs.length) (by omega); omega
theorem szCl_le (c : Cl) (l : Int) (h0 : 0 ≤ l) : szCl c l ≤ l := by
  unfold szCl
  have h1 := szR_le1 szSt_le c.vs l h0
  split
  · omega
  · have h2 := S.sz_le c.l (szR szSt c.vs l) (by omega)
    split
    · omega
    · have h3 := S.sz_le c.r _ (show 0 ≤ sz c.l (szR szSt c.vs l) by omega)
      split
      · omega
      · have h4 := szR_le1 szGd_le c.gs _ (show 0 ≤ sz c.r (sz c.l (szR szSt c.vs l)) by omega)
        split <;> omega
theorem szCl_ok (c : Cl) (l : Int) (h0 : 0 ≤ l) (h1 : l ≤ 1048576) (h : 0 ≤ szCl c l) : c.ok 1048576 := by
  unfold szCl at h
  split at h
  · omega
  · obtain ⟨a1, a2, a3⟩ := szR_ok (Q := fun s => s.size ≤ 1048576) szSt_le (fun x l h0 h1 h2 => by unfold szSt at h2; omega) c.vs l h0 h1 (by omega)
    split at h
    · omega
    · have b2 := S.sz_le c.l (szR szSt c.vs l) (by omega)
      have b1 := sz_ok c.l (szR szSt c.vs l) (by omega) (by omega) (by omega)
      split at h
      · omega
      · have c2 := S.sz_le c.r (sz c.l (szR szSt c.vs l)) (by omega)
        have c1 := sz_ok c.r (sz c.l (szR szSt c.vs l)) (by omega) (by omega) (by omega)
        split at h
        · omega
        · obtain ⟨d1, d2, _⟩ := szR_ok (Q := fun g => g.ok 1048576) szGd_le (fun g l h0 h1 h2 => by
            unfold szGd at h2
            split at h2
            · omega
            · have e2 := S.sz_le g.l l h0
              have e1 := sz_ok g.l l h0 h1 (by omega)
              split at h2
              · omega
              · exact ⟨e1, sz_ok g.r (sz g.l l) (by omega) (by omega) (by omega)⟩) c.gs (sz c.r (sz c.l (szR szSt c.vs l))) (by omega) (by omega) h
          exact ⟨a1, a2, b1, c1, d1, d2⟩
theorem eqCl_self (c : Cl) : eqCl c c = true := by
  have h1 : eqF eqGd c.gs c.gs = true := eqF_self eqGd (fun g => by simp [eqGd, eqT_self]) _
  have h2 : eqF eqSt c.vs c.vs = true := eqF_self eqSt (fun s => by simp [eqSt]) _
  simp [eqCl, eqR, eqT_self, h1, h2]
end Go.RF
namespace Go.RF.S
open Go Go.Proofs Go.RF
theorem pcTm {Q : Tm → Prop} {a b : Tm} (h1 : Q a) (h2 : Q b) : ∀ x, x = a ∨ x = b → Q x := by
  rintro x (rfl | rfl)
  · exact h1
  · exact h2
theorem pc85 (g : Gd) (h : g.ok 9223372036854775807) (l : Int) (h0 : 0 ≤ l) (h1 : l ≤ 1048576) : PC Try.prog 85 ([vG g, vI l].map .val) [vI (szGd g l)] [] := by
  obtain ⟨k, ⟨lk, ln, ls, lx⟩, ⟨rk, rn, rs, rx⟩⟩ := g
  exact w85 k lk ln rk rn ls rs lx rx l h0 h1 (pcTm (pc14 _ h.1) (pc14 _ h.2))
theorem pc87 (g : Gd) (h : g.ok 1048576) : PC Try.prog 87 ([vG g].map .val) [vG g] [] := by
  obtain ⟨k, ⟨lk, ln, ls, lx⟩, ⟨rk, rn, rs, rx⟩⟩ := g
  exact w87 k lk ln rk rn ls rs lx rx (pcTm (pc16 _ h.1) (pc16 _ h.2))
theorem pc89 (g g' : Gd) (h : g.ok 1048576) : PC Try.prog 89 ([vG g, vG g'].map .val) [vB (eqGd g g')] [] := by
  obtain ⟨k, ⟨lk, ln, ls, lx⟩, ⟨rk, rn, rs, rx⟩⟩ := g
  obtain ⟨k', ⟨lk', ln', ls', lx'⟩, ⟨rk', rn', rs', rx'⟩⟩ := g'
  exact w89 k lk ln rk rn ls rs lx rx k' lk' ln' rk' rn' ls' rs' lx' rx' (fun x y hx => pc18 x y (pcTm (Q := fun x => x.ok 1048576) h.1 h.2 x hx))
theorem pc86 (g g' : Gd) (h : g.ok 1048576) : PC Try.prog 86 ([vG g, vG g'].map .val) [vB (eqGd g g')] [] := by
  obtain ⟨k, ⟨lk, ln, ls, lx⟩, ⟨rk, rn, rs, rx⟩⟩ := g
  obtain ⟨k', ⟨lk', ln', ls', lx'⟩, ⟨rk', rn', rs', rx'⟩⟩ := g'
  exact w86 k lk ln rk rn ls rs lx rx k' lk' ln' rk' rn' ls' rs' lx' rx' (fun x y hx => pc52 x y (pcTm (Q := fun x => x.ok 1048576) h.1 h.2 x hx))
theorem pc58 (g g' : Gd) (h : g.ok 1048576) : PC Try.prog 58 ([vG g, vG g'].map .val) [vB (eqGd g g')] [] := by
  obtain ⟨k, ⟨lk, ln, ls, lx⟩, ⟨rk, rn, rs, rx⟩⟩ := g
  obtain ⟨k', ⟨lk', ln', ls', lx'⟩, ⟨rk', rn', rs', rx'⟩⟩ := g'
  exact w58 k lk ln rk rn ls rs lx rx k' lk' ln' rk' rn' ls' rs' lx' rx' (fun x y hx => pc56 x y (pcTm (Q := fun x => x.ok 1048576) h.1 h.2 x hx))
theorem pc19 (c : Cl) (h : c.ok 9223372036854775807) (l : Int) (h0 : 0 ≤ l) (h1 : l ≤ 1048576) : PC Try.prog 19 ([vC c, vI l].map .val) [vI (szCl c l)] [] := by
  obtain ⟨vs, ⟨lk, ln, ls, lx⟩, ⟨rk, rn, rs, rx⟩, gs⟩ := c
  exact w19 vs lk ln rk rn ls rs lx rx gs l h0 h1 (w29 vs l h0 h1 h.a h.b) (pcTm (pc14 _ h.l) (pc14 _ h.r)) (fun l h0 h1 => w50 gs l h0 h1 h.d fun g hg l h0 h1 => pc85 g (h.e g hg) l h0 h1)
    (by have := szR_le1 szSt_le vs l h0; omega)
theorem pc21 (c : Cl) (h : c.ok 1048576) : PC Try.prog 21 ([vC c].map .val) [vC c] [] := by
  obtain ⟨vs, ⟨lk, ln, ls, lx⟩, ⟨rk, rn, rs, rx⟩, gs⟩ := c
  exact w21 vs lk ln rk rn ls rs lx rx gs (w32 vs h.a) (pcTm (pc16 _ h.l) (pc16 _ h.r)) (w54 gs h.d fun g hg => pc87 g (h.e g hg))
theorem pc23 (c c' : Cl) (h : c.ok 1048576) : PC Try.prog 23 ([vC c, vC c'].map .val) [vB (eqCl c c')] [] := by
  obtain ⟨vs, ⟨lk, ln, ls, lx⟩, ⟨rk, rn, rs, rx⟩, gs⟩ := c
  obtain ⟨vs', ⟨lk', ln', ls', lx'⟩, ⟨rk', rn', rs', rx'⟩, gs'⟩ := c'
  have ha := h.a
  have hd := h.d
  exact w23 vs lk ln rk rn ls rs lx rx gs vs' lk' ln' rk' rn' ls' rs' lx' rx' gs' (w35 vs vs' (by simp only [] at ha; omega)) (fun x y hx => pc18 x y (pcTm (Q := fun x => x.ok 1048576) h.l h.r x hx)) (w59 gs gs' (by simp only [] at hd; omega) fun g hg g' _ => pc89 g g' (h.e g hg))
theorem pc20 (c c' : Cl) (h : c.ok 1048576) : PC Try.prog 20 ([vC c, vC c'].map .val) [vB (eqCl c c')] [] := by
  obtain ⟨vs, ⟨lk, ln, ls, lx⟩, ⟨rk, rn, rs, rx⟩, gs⟩ := c
  obtain ⟨vs', ⟨lk', ln', ls', lx'⟩, ⟨rk', rn', rs', rx'⟩, gs'⟩ := c'
  have ha := h.a
  have hd := h.d
  exact w20 vs lk ln rk rn ls rs lx rx gs vs' lk' ln' rk' rn' ls' rs' lx' rx' gs' (w51 vs vs' (by simp only [] at ha; omega)) (fun x y hx => pc52 x y (pcTm (Q := fun x => x.ok 1048576) h.l h.r x hx)) (w53 gs gs' (by simp only [] at hd; omega) fun g hg g' _ => pc86 g g' (h.e g hg))
theorem pc22 (c c' : Cl) (h : c.ok 1048576) : PC Try.prog 22 ([vC c, vC c'].map .val) [vB (eqCl c c')] [] := by
  obtain ⟨vs, ⟨lk, ln, ls, lx⟩, ⟨rk, rn, rs, rx⟩, gs⟩ := c
  obtain ⟨vs', ⟨lk', ln', ls', lx'⟩, ⟨rk', rn', rs', rx'⟩, gs'⟩ := c'
  have ha := h.a
  have hd := h.d
  exact w22 vs lk ln rk rn ls rs lx rx gs vs' lk' ln' rk' rn' ls' rs' lx' rx' gs' (w55 vs vs' (by simp only [] at ha; omega)) (fun x y hx => pc56 x y (pcTm (Q := fun x => x.ok 1048576) h.l h.r x hx)) (w57 gs gs' (by simp only [] at hd; omega) 58 Try.f58 [] Try.func58 (by kernel_rfl) fun g hg g' _ => by simpa using pc58 g g' (h.e g hg))
end Go.RF.S
