/- The functions of this seat, as that machine runs them. -/
import Derived.Test.YthlngiieofkmiaaGreatM7
import Derived.Test.YthlngiieofkmiaaGreatM8
set_option linter.unusedVariables false
/- Guards and other rows out of data. -/
namespace Go.Q.S
open Go Go.Q
theorem gu_of {H : Tab} {e : TypeId} {lay : List CT} (hT : TmTy H e lay) {r : List D} (h : WL H r (.int .i64 :: (lay ++ lay))) (hz : szL r <= 1048575) : ∃ g : Gu,r = g.row /\ g.ok /\ Small g.l /\ Small g.r /\ WL H g.l.row lay /\ WL H g.r.row lay /\ i64ok g.k := by
 obtain ⟨k,ds,rfl,hk,h1⟩ := wl_int h
 have hlen : lay.length = 4 := by rw [hT.eq]; rfl
 have hd := h1.len
 have h2 := WL.part 0 4 h1
 have h3 := WL.part 4 4 h1
 rw [List.drop_zero,List.drop_zero,List.take_left' hlen] at h2
 rw [show ((lay ++ lay).drop 4).take 4 = lay by rw [List.drop_left' hlen]; exact List.take_of_length_le (by omega)] at h3
 rw [List.length_append,hlen] at hd
 have hs : ds = ds.take 4 ++ (ds.drop 4).take 4 := by
  rw [List.take_of_length_le (l := ds.drop 4) (by simp [hd]),List.take_append_drop]
 have hsz : szL (.int k :: ds) = szL (ds.take 4) + szL ((ds.drop 4).take 4) := by
  have key : ∀ a b : List D,szL (a ++ b) = szL a + szL b := fun a b => by
   induction a with
   | nil => simp [szL]
   | cons x a ih => simp only [List.cons_append,szL,ih]; omega
  conv => lhs; rw [hs]
  simp only [szL,D.sz,key]; omega
 obtain ⟨l,e1,s1⟩ := tm_of hT _ _ (Nat.lt_succ_self _) h2 (by omega)
 obtain ⟨r,e2,s2⟩ := tm_of hT _ _ (Nat.lt_succ_self _) h3 (by omega)
 have n1 := tm_nodes l
 have n2 := tm_nodes r
 rw [<- e1] at n1
 rw [<- e2] at n2
 have b1 : szL (ds.take 4) <= 1048575 := by omega
 have b2 : szL ((ds.drop 4).take 4) <= 1048575 := by omega
 refine ⟨⟨k,l,r⟩,?_,⟨Nat.le_trans n1 (by omega),Nat.le_trans n2 (by omega)⟩,s1,s2,by rw [<- e1]; exact h2,by rw [<- e2]; exact h3,hk⟩
 rw [hs,e1,e2,Tm.row_eq,Tm.row_eq]; rfl
theorem gus_of {H : Tab} {e : TypeId} {lay : List CT} (hT : TmTy H e lay) : ∀ {rs : Rows},WRs H rs (.int .i64 :: (lay ++ lay)) -> rs.length + szR rs <= 1048576 -> ∃ gs : List Gu,rs = gs.map Gu.row /\ ∀ g ∈ gs,g.ok /\ Small g.l /\ Small g.r /\ WL H g.l.row lay /\ WL H g.r.row lay /\ i64ok g.k
 | [],_,_ => ⟨[],rfl,by simp⟩
 | r :: rs,h,hz => by
  simp only [WRs] at h
  simp only [szR,List.length_cons] at hz
  obtain ⟨g,rfl,h1⟩ := gu_of hT h.1 (by omega)
  obtain ⟨gs,rfl,h2⟩ := gus_of hT h.2 (by omega)
  exact ⟨g :: gs,rfl,fun x hx => by
   rcases List.mem_cons.1 hx with rfl | hx
   · exact h1
   · exact h2 x hx⟩
theorem cntR_strs (l : List ByteArray) : cntR (l.map sRow) = l.length := by
 induction l with
 | nil => rfl
 | cons a l ih => simp only [List.map_cons,cntR,ih,sRow,cntL,cntD,List.length_cons]; omega
theorem strs_wrs {H : Tab} {l : List ByteArray} (h : WRs H (l.map sRow) [.str]) : ∀ x ∈ l,x.size <= maxLen := fun x hx => by
 have := (wrs_map.1 h) x hx
 obtain ⟨n,ds',e,h1,_⟩ := wl_str this
 simp only [sRow,List.cons.injEq,D.str.injEq] at e
 rw [e.1]; exact h1
end Go.Q.S
namespace Go.Q.S
open Go Go.Q
theorem allC_len (vars : List ByteArray) (gs : List Gu) : (allC vars gs).length <= 64 := by
 unfold allC
 refine Nat.le_trans (List.length_filter_le _ _) ?_
 have := (cnt4_le vars.length).2
 simp; omega
theorem allC_ok (vars : List ByteArray) (gs : List Gu) : ∀ x ∈ allC vars gs,i64ok (x : Int) := fun x hx => by
 unfold allC at hx
 have h1 := (List.mem_filter.1 hx).1
 have := (cnt4_le vars.length).2
 simp at h1
 exact i64ok_of (by omega) (by omega)
def nRow (i : Nat) : List D := [.int (i : Int)]
theorem cntR_nrow (l : List Nat) : cntR (l.map nRow) = l.length := by
 induction l with
 | nil => rfl
 | cons a l ih => simp only [List.map_cons,cntR,ih,nRow,cntL,cntD,List.length_cons]; omega
end Go.Q.S
