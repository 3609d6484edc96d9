/- The functions of this seat, as that machine runs them. -/
import Derived.Test.YthlngiieofkmiaaGreatM4
set_option linter.unusedVariables false
/- Marks: numbers written into all that a row of data holds,and read again. -/
namespace Go.Q.S
open Go Go.Q
mutual
def cntD : D -> Nat
 | .int _ => 1
 | .bool _ => 0
 | .str _ => 1
 | .sl rows => cntR rows
def cntL : List D -> Nat
 | [] => 0
 | d :: ds => cntD d + cntL ds
def cntR : List (List D) -> Nat
 | [] => 0
 | r :: rs => cntL r + cntR rs
end
mutual
def mkD (mt : Int -> ByteArray) : D -> Int -> D
 | .int _,k => .int k
 | .bool b,_ => .bool b
 | .str _,k => .str (mt k)
 | .sl rows,k => .sl (mkR mt rows k)
def mkL (mt : Int -> ByteArray) : List D -> Int -> List D
 | [],_ => []
 | d :: ds,k => mkD mt d k :: mkL mt ds (k + cntD d)
def mkR (mt : Int -> ByteArray) : List (List D) -> Int -> List (List D)
 | [],_ => []
 | r :: rs,k => mkL mt r k :: mkR mt rs (k + cntL r)
end
def BK : Int := 1152921504606846976
variable {mt : Int -> ByteArray}
theorem mkR_len : ∀ (rs : Rows) (k : Int),(mkR mt rs k).length = rs.length
 | [],k => rfl
 | r :: rs,k => by simp only [mkR,List.length_cons,mkR_len rs]
theorem mkR_app : ∀ (a b : Rows) (k : Int),mkR mt (a ++ b) k = mkR mt a k ++ mkR mt b (k + cntR a)
 | [],b,k => by simp [mkR,cntR]
 | r :: a,b,k => by
  simp only [List.cons_append,mkR,mkR_app a b,cntR]
  rw [show k + (cntL r : Int) + (cntR a : Int) = k + ((cntL r + cntR a : Nat) : Int) by omega]
theorem cntR_app : ∀ (a b : Rows),cntR (a ++ b) = cntR a + cntR b
 | [],b => by simp [cntR]
 | r :: a,b => by simp only [List.cons_append,cntR,cntR_app a b]; omega
theorem cntR_split (rs : Rows) (i : Nat) : cntR (rs.take i) + cntR (rs.drop i) = cntR rs := by
 rw [<- cntR_app,List.take_append_drop]
theorem cntR_drop {rs : Rows} {i : Nat} (h : i < rs.length) : cntR (rs.drop i) = cntL rs[i] + cntR (rs.drop (i + 1)) := by
 rw [List.drop_eq_getElem_cons h]; simp only [cntR]
theorem cntR_take {rs : Rows} {i : Nat} (h : i < rs.length) : cntR (rs.take (i + 1)) = cntR (rs.take i) + cntL rs[i] := by
 rw [List.take_succ_eq_append_getElem h,cntR_app]; simp [cntR]
theorem mkR_at {rs : Rows} {i : Nat} (h : i < rs.length) (k : Int) : rowAt (mkR mt rs k) i = mkL mt rs[i] (k + cntR (rs.take i)) := by
 have e : mkR mt rs k = mkR mt (rs.take i) k ++ mkL mt rs[i] (k + cntR (rs.take i)) :: mkR mt (rs.drop (i + 1)) (k + cntR (rs.take i) + cntL rs[i]) := by
  conv => lhs; rw [<- List.take_append_drop i rs,List.drop_eq_getElem_cons h,mkR_app]
  simp only [mkR]
 have hl : (mkR mt (rs.take i) k).length = i := by rw [mkR_len]; simp; omega
 rw [e]
 simp only [rowAt,List.getD]
 rw [List.getElem?_append_right (by omega),hl]
 simp
theorem mark_loop {F : Nat -> Int -> Rows -> R} {rs : Rows} {k : Int} (hk : 0 < k) (hb : k + cntR rs <= BK)
 (hs : ∀ i (hi : i < rs.length) k y,y.length = rs.length -> rowAt y i = rs[i] -> 0 < k -> k + cntL rs[i] <= BK -> F i k y = F (i + 1) (k + cntL rs[i]) (over i [mkL mt rs[i] k] y))
 (he : ∀ k y,y.length = rs.length -> F rs.length k y = some (0,[.int k,.sl y])) : F 0 k rs = some (0,[.int (k + cntR rs),.sl (mkR mt rs k)]) := by
 have key : ∀ n i,i + n = rs.length -> F i (k + cntR (rs.take i)) (mkR mt (rs.take i) k ++ rs.drop i) = some (0,[.int (k + cntR rs),.sl (mkR mt rs k)]) := by
  intro n
  induction n with
  | zero =>
   intro i hi
   have : i = rs.length := by omega
   subst this
   rw [List.take_length,List.drop_length,List.append_nil]
   exact he _ _ (mkR_len _ _)
  | succ n ih =>
   intro i hi
   have hlt : i < rs.length := by omega
   have hl : (mkR mt (rs.take i) k).length = i := by rw [mkR_len]; simp; omega
   have hyl : (mkR mt (rs.take i) k ++ rs.drop i).length = rs.length := by rw [List.length_append,hl,List.length_drop]; omega
   have hy : rowAt (mkR mt (rs.take i) k ++ rs.drop i) i = rs[i] := by
    simp only [rowAt,List.getD]
    rw [List.getElem?_append_right (by omega),hl,List.drop_eq_getElem_cons hlt]; simp [hlt]
   have h1 := cntR_split rs i
   have h2 := cntR_drop hlt
   rw [hs i hlt _ _ hyl hy (by omega) (by omega)]
   have h3 := ih (i + 1) (by omega)
   rw [cntR_take hlt] at h3
   rw [show k + (cntR (rs.take i) : Int) + (cntL rs[i] : Int) = k + ((cntR (rs.take i) + cntL rs[i] : Nat) : Int) by omega]
   rw [<- h3]
   congr 1
   rw [over1_eq (by omega),List.set_append_right _ _ (by omega),hl,Nat.sub_self,List.drop_eq_getElem_cons hlt,List.set_cons_zero,List.take_succ_eq_append_getElem hlt,mkR_app]
   simp [mkR]
 have := key rs.length 0 (by omega)
 simpa [mkR,cntR] using this
theorem held_loop {F : Nat -> Int -> R} {rs : Rows} {k : Int} (hk : 0 < k) (hb : k + cntR rs <= BK)
 (hs : ∀ i (hi : i < rs.length) k',rowAt (mkR mt rs k) i = mkL mt rs[i] k' -> 0 < k' -> k' + cntL rs[i] <= BK -> F i k' = F (i + 1) (k' + cntL rs[i]))
 (he : ∀ k',F rs.length k' = some (0,[.int k'])) : F 0 k = some (0,[.int (k + cntR rs)]) := by
 have key : ∀ n i,i + n = rs.length -> F i (k + cntR (rs.take i)) = some (0,[.int (k + cntR rs)]) := by
  intro n
  induction n with
  | zero =>
   intro i hi
   have : i = rs.length := by omega
   subst this
   rw [List.take_length]; exact he _
  | succ n ih =>
   intro i hi
   have hlt : i < rs.length := by omega
   have h1 := cntR_split rs i
   have h2 := cntR_drop hlt
   rw [hs i hlt _ (mkR_at hlt k) (by omega) (by omega)]
   have h3 := ih (i + 1) (by omega)
   rw [cntR_take hlt] at h3
   rw [show k + (cntR (rs.take i) : Int) + (cntL rs[i] : Int) = k + ((cntR (rs.take i) + cntL rs[i] : Nat) : Int) by omega]
   exact h3
 have := key rs.length 0 (by omega)
 simpa [cntR] using this
theorem wrap_k {k : Int} (h0 : 0 < k) (h : k + 1 <= BK) : IntKind.i64.wrap (k + 1) = k + 1 := by
 unfold BK at h
 exact IntWalk.i64_in _ (by omega)
theorem over_row_at {rows : Rows} {i : Nat} {r : List D} (hi : i < rows.length) : rowAt (over i [r] rows) i = r := over_at_row hi
theorem over_row_len {rows : Rows} {i : Nat} {r : List D} (hi : i < rows.length) : (over i [r] rows).length = rows.length := over_length _ _ _ (by simp; omega)
theorem over_row_two {rows : Rows} {i : Nat} {x y : List D} (hi : i < rows.length) : over i [y] (over i [x] rows) = over i [y] rows := over_over hi
theorem int_lt_zero {k : Int} (h : 0 < k) : decide (k < 0) = false := decide_eq_false (by omega)
theorem size1 (d : List D) : (bytesOf [d]).size = 1 := rfl
theorem cnt_row {r : List D} {rs : Rows} (h : r ∈ rs) : cntL r <= cntR rs := by
 induction rs with
 | nil => simp at h
 | cons x rs ih =>
  simp only [cntR]
  rcases List.mem_cons.1 h with rfl | h
  · omega
  · have := ih h; omega
end Go.Q.S
