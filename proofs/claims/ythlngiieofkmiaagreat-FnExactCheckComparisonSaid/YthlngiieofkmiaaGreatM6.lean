/- The functions of this seat, as that machine runs them. -/
import Derived.Test.YthlngiieofkmiaaGreatM5
set_option linter.unusedVariables false
/- Terms that are made are well typed; how many marks they bear. -/
namespace Go.Q.S
open Go Go.Q
def i64ok (n : Int) : Prop := (Lit.int .i64 n).wf = true
theorem i64ok_of {n : Int} (h : -9223372036854775808 <= n) (h' : n <= 9223372036854775807) : i64ok n := by
 have h1 : IntKind.i64.min = -9223372036854775808 := by decide
 have h2 : IntKind.i64.max = 9223372036854775807 := by decide
 unfold i64ok Lit.wf
 simp only [h1,h2,Bool.and_eq_true,decide_eq_true_eq]
 exact ⟨h,h'⟩
section
variable {H : Tab} {e : TypeId} {lay : List CT} (hT : TmTy H e lay)
theorem wrs_map {α : Type} {g : α -> List D} : ∀ {l : List α},WRs H (l.map g) lay ↔ ∀ a ∈ l,WL H (g a) lay
 | [] => by simp [WRs]
 | a :: l => by simp only [List.map_cons,WRs,wrs_map (l := l),List.forall_mem_cons]
include hT
theorem wl_row (t : Tm) : WL H t.row lay ↔ i64ok t.k /\ i64ok t.n /\ t.s.size <= maxLen /\ t.as.length <= maxLen /\ ∀ a ∈ t.as,WL H a.row lay := by
 obtain ⟨ti,hty,hl⟩ := hT.ty
 rw [Tm.row_eq]
 have hw := @wrs_map H lay Tm Tm.row t.as
 rw [hT.eq] at hw ⊢
 simp only [WL,WD,i64ok]
 constructor
 · rintro ⟨_,_,h1,⟨k1,rfl,h2⟩,_,_,rfl,⟨k2,rfl,h3⟩,_,_,rfl,⟨rfl,h4⟩,_,_,rfl,⟨e',ti',rfl,h5,h6,h7⟩,h8⟩
   simp only [List.cons.injEq,CT.int.injEq,CT.sl.injEq] at h1
   obtain ⟨rfl,rfl,_,rfl,rfl⟩ := h1
   rw [hty] at h5
   obtain rfl : ti = ti' := by simpa using h5
   rw [hl,hT.eq] at h7
   exact ⟨h2,h3,h4,by simpa using h6,hw.1 h7⟩
 · rintro ⟨h1,h2,h3,h4,h5⟩
   exact ⟨_,_,rfl,⟨_,rfl,h1⟩,_,_,rfl,⟨_,rfl,h2⟩,_,_,rfl,⟨rfl,h3⟩,_,_,rfl,⟨e,ti,rfl,hty,by simpa using h4,by rw [hl,hT.eq]; exact hw.2 h5⟩,rfl⟩
theorem aS_wl {l : List Bnd} (hl : ∀ b ∈ l,WL H b.2.row lay) : ∀ t,WL H t.row lay -> WL H (aS l t).row lay := Tm.ind fun t ih h => by
 rw [aS_eq]
 split
 · rename_i u hu
   split at hu
   · obtain ⟨b,hb,rfl⟩ := bnd_mem hu
     exact hl b hb
   · simp at hu
 · obtain ⟨h1,h2,h3,h4,h5⟩ := (wl_row hT t).1 h
   rw [wl_row hT]
   refine ⟨h1,h2,h3,by simpa [Tm.as] using h4,fun a ha => ?_⟩
   simp only [Tm.as,List.mem_map] at ha
   obtain ⟨x,hx,rfl⟩ := ha
   exact ih x hx (h5 x hx)
theorem wl_leaf {k n : Int} {s : ByteArray} (h1 : i64ok k) (h2 : i64ok n) (h3 : s.size <= maxLen) : WL H (Tm.mk k n s []).row lay := by
 rw [wl_row hT]
 exact ⟨h1,h2,h3,Nat.zero_le _,fun a ha => by simp [Tm.as] at ha⟩
theorem wl_word {n : Int} (h : i64ok n) : WL H (word n).row lay := wl_leaf hT (i64ok_of (by decide) (by decide)) h (by decide)
omit hT in
theorem cmp_ok {s : ByteArray} {x y : Tm} (hx : isW x = true) (hy : isW y = true) : i64ok (cmp s x.n y.n) := by
 simp only [isW,Bool.and_eq_true,decide_eq_true_eq] at hx hy
 obtain ⟨_,a1,a2,_⟩ := hx
 obtain ⟨_,b1,b2,_⟩ := hy
 unfold cmp
 split
 · have h1 := Int.tmod_lt_of_pos (x.n + y.n) (show (0 : Int) < 4 by decide)
   have h2 := Int.tmod_nonneg 4 (show 0 <= x.n + y.n by omega)
   exact i64ok_of (by omega) (by omega)
 · split
   · have h1 := Int.tmod_lt_of_pos (x.n - y.n + 4) (show (0 : Int) < 4 by decide)
     have h2 := Int.tmod_nonneg 4 (show 0 <= x.n - y.n + 4 by omega)
     exact i64ok_of (by omega) (by omega)
   · have h1 := Int.tmod_lt_of_pos (x.n * y.n) (show (0 : Int) < 4 by decide)
     have h2 := Int.tmod_nonneg 4 (show 0 <= x.n * y.n from Int.mul_nonneg a1 b1)
     exact i64ok_of (by omega) (by omega)
theorem rW_wl : ∀ t,WL H t.row lay -> WL H (rW t).row lay := Tm.ind fun t ih h => by
 obtain ⟨h1,h2,h3,h4,h5⟩ := (wl_row hT t).1 h
 have hmk : WL H (Tm.mk t.k t.n t.s (t.as.map rW)).row lay := by
  rw [wl_row hT]
  refine ⟨h1,h2,h3,by simpa [Tm.as] using h4,fun a ha => ?_⟩
  simp only [Tm.as,List.mem_map] at ha
  obtain ⟨x,hx,rfl⟩ := ha
  exact ih x hx (h5 x hx)
 rw [rW_eq]
 unfold rW1
 split
 · rename_i x y hxy
   split
   · rename_i hc
     exact wl_leaf hT (i64ok_of (by decide) (by decide)) (cmp_ok hc.2.2.2.1 hc.2.2.2.2) (by decide)
   · exact hmk
 · exact hmk
omit hT in
theorem vals_ok (n : Nat) (c : Int) : ∀ x ∈ vals n c,i64ok x := fun x hx => by
 have key : ∀ a : Int,i64ok (a.tmod 4) := fun a => by
  have h1 := Int.tmod_lt_of_pos a (show (0 : Int) < 4 by decide)
  have h2 := Int.lt_tmod_of_pos a (show (0 : Int) < 4 by decide)
  exact i64ok_of (by omega) (by omega)
 unfold vals at hx
 split at hx
 · split at hx <;> simp at hx
   · rw [hx]; exact key _
   · rcases hx with rfl | rfl <;> exact key _
   · rcases hx with rfl | rfl | rfl <;> exact key _
 · simp at hx
theorem caseS_wl (vars : List ByteArray) (c : Int) : ∀ b ∈ caseS vars c,WL H b.2.row lay := fun b hb => by
 unfold caseS at hb
 simp only [List.mem_map] at hb
 obtain ⟨p,hp,rfl⟩ := hb
 exact wl_word hT (vals_ok _ _ _ (List.of_mem_zip hp).2)
theorem tm0_wl : WL H tm0.row lay := wl_leaf hT (i64ok_of (by decide) (by decide)) (i64ok_of (by decide) (by decide)) (by decide)
end
def instR (vars : List ByteArray) (t : Tm) (c : Int) : Tm := if isC vars.length c then inst vars t c else tm0
theorem instR_small {vars : List ByteArray} {t : Tm} (h : Small t) (c : Int) : Small (instR vars t c) := by
 unfold instR; split
 · exact inst_small h c
 · exact small_word ..
theorem instR_wl {H : Tab} {e : TypeId} {lay : List CT} (hT : TmTy H e lay) {vars : List ByteArray} {t : Tm} (h : WL H t.row lay) (c : Int) : WL H (instR vars t c).row lay := by
 unfold instR; split
 · exact rW_wl hT _ (aS_wl hT (caseS_wl hT vars c) t h)
 · exact tm0_wl hT
theorem instR_nodes {vars : List ByteArray} {t : Tm} (c : Int) : (instR vars t c).nodes <= t.nodes := by
 unfold instR; split
 · exact Nat.le_trans (rW_nodes _) (aS_nodes (caseS_nodes vars c) t)
 · have h1 : tm0.nodes = 1 := by rw [Tm.nodes_eq]; simp [tm0,Tm.as]
   have := Tm.nodes_eq t; omega
theorem szR_map {α : Type} {g : α -> List D} : ∀ (l : List α),szR (l.map g) = (l.map fun a => szL (g a)).sum
 | [] => rfl
 | a :: l => by simp only [List.map_cons,szR,szR_map l,List.sum_cons]
theorem cntR_map {α : Type} {g : α -> List D} : ∀ (l : List α),cntR (l.map g) = (l.map fun a => cntL (g a)).sum
 | [] => rfl
 | a :: l => by simp only [List.map_cons,cntR,cntR_map l,List.sum_cons]
theorem tm_nodes : ∀ t : Tm,t.nodes <= 1 + szL t.row := Tm.ind fun t ih => by
 rw [Tm.nodes_eq,Tm.row_eq]
 simp only [szL,D.sz,List.length_map,szR_map]
 have h : (t.as.map Tm.nodes).sum <= (t.as.map fun a => 1 + szL a.row).sum := sum_le fun a ha => ih a ha
 have h2 : ∀ l : List Tm,(l.map fun a => 1 + szL a.row).sum = l.length + (l.map fun a => szL a.row).sum := fun l => by
  induction l with
  | nil => rfl
  | cons a l ih => simp only [List.map_cons,List.sum_cons,List.length_cons,ih]; omega
 rw [h2] at h
 omega
theorem tm_cnt : ∀ t : Tm,cntL t.row <= 3 * t.nodes := Tm.ind fun t ih => by
 rw [Tm.nodes_eq,Tm.row_eq]
 simp only [cntL,cntD,cntR_map]
 have h : (t.as.map fun a => cntL a.row).sum <= (t.as.map fun a => 3 * a.nodes).sum := sum_le fun a ha => ih a ha
 have h2 : ∀ l : List Tm,(l.map fun a => 3 * a.nodes).sum = 3 * (l.map Tm.nodes).sum := fun l => by
  induction l with
  | nil => rfl
  | cons a l ih => simp only [List.map_cons,List.sum_cons,ih]; omega
 rw [h2] at h
 omega
theorem tm_cntR (t : Tm) : cntR (t.as.map Tm.row) <= 3 * t.nodes := by
 have := tm_cnt t
 rw [Tm.row_eq] at this
 simp only [cntL,cntD] at this
 omega
theorem cnt_sz {H : Tab} (hw : ∀ e ti,H.ty e = some ti -> ti.lay.length <= 64) : ∀ (N : Nat),(∀ ds lay,SizeOf.sizeOf ds < N -> WL H ds lay -> cntL ds <= ds.length + 64 * szL ds) /\ (∀ rs lay,SizeOf.sizeOf rs < N -> lay.length <= 64 -> WRs H rs lay -> cntR rs <= 64 * (rs.length + szR rs))
 | 0 => ⟨fun _ _ h => absurd h (Nat.not_lt_zero _),fun _ _ h => absurd h (Nat.not_lt_zero _)⟩
 | N + 1 => by
  obtain ⟨i1,i2⟩ := cnt_sz hw N
  refine ⟨fun ds lay hN h => ?_,fun rs lay hN hl h => ?_⟩
  · cases ds with
    | nil => simp [cntL]
    | cons d ds =>
     simp only [WL] at h
     obtain ⟨ct,cts,rfl,h1,h2⟩ := h
     simp only [List.cons.sizeOf_spec] at hN
     have h3 := i1 ds cts (by omega) h2
     simp only [cntL,szL,List.length_cons]
     cases d with
     | int n => simp only [cntD,D.sz]; omega
     | bool n => simp only [cntD,D.sz]; omega
     | str n => simp only [cntD,D.sz]; omega
     | sl rows =>
      simp only [WD] at h1
      obtain ⟨e,ti,rfl,h4,h5,h6⟩ := h1
      have h7 := i2 rows ti.lay (by simp only [D.sl.sizeOf_spec] at hN; omega) (hw e ti h4) h6
      simp only [cntD,D.sz]; omega
  · cases rs with
    | nil => simp [cntR]
    | cons r rs =>
     simp only [WRs] at h
     simp only [List.cons.sizeOf_spec] at hN
     have h3 := i1 r lay (by omega) h.1
     have h4 := i2 rs lay (by omega) hl h.2
     have h5 := h.1.len
     simp only [cntR,szR,List.length_cons]
     omega
end Go.Q.S
