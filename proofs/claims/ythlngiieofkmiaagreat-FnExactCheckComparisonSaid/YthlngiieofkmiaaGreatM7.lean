/- The functions of this seat, as that machine runs them. -/
import Derived.Test.YthlngiieofkmiaaGreatM6
set_option linter.unusedVariables false
/- Cells laid together; filters that may break off. -/
namespace Go.Q.S
open Go Go.Q
section
variable {H : Tab} {ds : List D} {cts : List CT}
theorem wlc_nil : WL H [] [] := by simp [WL]
theorem wlc_int {n : Int} (h : i64ok n) (k : WL H ds cts) : WL H (.int n :: ds) (.int .i64 :: cts) := by
 simp only [WL,WD]; exact ⟨_,_,rfl,⟨_,rfl,h⟩,k⟩
theorem wlc_bool {b : Bool} (k : WL H ds cts) : WL H (.bool b :: ds) (.bool :: cts) := by
 simp only [WL,WD]; exact ⟨_,_,rfl,rfl,k⟩
theorem wlc_str {s : ByteArray} (h : s.size <= maxLen) (k : WL H ds cts) : WL H (.str s :: ds) (.str :: cts) := by
 simp only [WL,WD]; exact ⟨_,_,rfl,⟨rfl,h⟩,k⟩
theorem wlc_sl {e : TypeId} {ti : TI} {rs : Rows} (he : H.ty e = some ti) (hl : rs.length <= maxLen) (hw : WRs H rs ti.lay) (k : WL H ds cts) : WL H (.sl rs :: ds) (.sl e :: cts) := by
 simp only [WL,WD]; exact ⟨_,_,rfl,⟨e,ti,rfl,he,hl,hw⟩,k⟩
theorem wrs_nil {lay : List CT} : WRs H [] lay := by simp [WRs]
theorem wrs_ints {l : List Int} (h : ∀ x ∈ l,i64ok x) : WRs H (l.map iRow) [.int .i64] := wrs_map.2 fun x hx => wlc_int (h x hx) wlc_nil
theorem wrs_strs {l : List ByteArray} (h : ∀ x ∈ l,x.size <= maxLen) : WRs H (l.map sRow) [.str] := wrs_map.2 fun x hx => wlc_str (h x hx) wlc_nil
theorem ints_wrs {l : List Int} (h : WRs H (l.map iRow) [.int .i64]) : ∀ x ∈ l,i64ok x := fun x hx => by
 have := (wrs_map.1 h) x hx
 obtain ⟨n,ds',e,h1,_⟩ := wl_int this
 simp only [iRow,List.cons.injEq,D.int.injEq] at e
 rw [e.1]; exact h1
end
theorem tm0_nodes (t : Tm) : tm0.nodes <= t.nodes := by
 have h1 : tm0.nodes = 1 := by rw [Tm.nodes_eq]; simp [tm0,Tm.as]
 have := Tm.nodes_eq t
 omega
theorem len_ok {n : Nat} (h : n <= maxLen) : i64ok (n : Int) := i64ok_of (by omega) (by unfold maxLen at h; omega)
theorem cntR_ints (l : List Int) : cntR (l.map iRow) = l.length := by
 induction l with
 | nil => rfl
 | cons a l ih => simp only [List.map_cons,cntR,ih,iRow,cntL,cntD,List.length_cons]; omega
theorem oc_loop {α : Type} {F : Nat -> Rows -> R} {xs : List α} {g : α -> List D} {ok p : α -> Bool} {A : Rows -> R} {B : R}
 (hs : ∀ i (hi : i < xs.length) acc,acc.length <= i -> F i acc = bif ok xs[i] then (bif p xs[i] then F (i + 1) (acc ++ [g xs[i]]) else F (i + 1) acc) else B) (he : ∀ acc,F xs.length acc = A acc) :
 F 0 [] = bif xs.all ok then A ((xs.filter p).map g) else B := by
 have key : ∀ n i acc,i + n = xs.length -> acc.length <= i -> F i acc = bif (xs.drop i).all ok then A (acc ++ ((xs.drop i).filter p).map g) else B := by
  intro n
  induction n with
  | zero =>
   intro i acc hi ha
   have : i = xs.length := by omega
   subst this
   rw [he,List.drop_length]; simp
  | succ n ih =>
   intro i acc hi ha
   have hlt : i < xs.length := by omega
   rw [hs i hlt acc ha,List.drop_eq_getElem_cons hlt,List.all_cons,List.filter_cons]
   cases h1 : ok xs[i] with
   | false => simp
   | true =>
    cases h2 : p xs[i] with
    | true =>
     simp only [cond_true,Bool.true_and,if_true,List.map_cons]
     rw [ih (i + 1) _ (by omega) (by simp; omega),List.append_assoc]; rfl
    | false =>
     simp only [cond_true,cond_false,Bool.true_and,Bool.false_eq_true,if_false]
     exact ih (i + 1) _ (by omega) (by omega)
 have := key xs.length 0 [] (by omega) (by simp)
 simpa using this
end Go.Q.S
