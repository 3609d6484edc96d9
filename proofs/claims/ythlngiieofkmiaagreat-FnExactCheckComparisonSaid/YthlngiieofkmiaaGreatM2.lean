/- Lists of strings, numbers, bindings; loops that may stop. -/
import Derived.Test.YthlngiieofkmiaaGreatM1
set_option linter.unusedVariables false
namespace Go.Q
open Go
def sRow (s : ByteArray) : List D := [.str s]
def iRow (n : Int) : List D := [.int n]
theorem strs_of' {H : Tab} {rs : Rows} (h : WRs H rs [.str]) : ∃ ss : List ByteArray,rs = ss.map sRow := strs_of rs h
theorem ints_of' {H : Tab} {rs : Rows} (h : WRs H rs [.int .i64]) : ∃ ss : List Int,rs = ss.map iRow := ints_of rs h
theorem bnds_of {H : Tab} {e : TypeId} {lay : List CT} (hT : TmTy H e lay) : ∀ (rs : Rows),WRs H rs (.str :: lay) -> szR rs <= 1048576 -> ∃ bs : List Bnd,rs = bs.map Bnd.row /\ ∀ b ∈ bs,Small b.2
 | [],_,_ => ⟨[],rfl,by simp⟩
 | r :: rs,h,hz => by
  simp only [WRs] at h
  obtain ⟨a,ds,rfl,_,h1⟩ := wl_str h.1
  simp only [szR,szL,D.sz] at hz
  obtain ⟨t,rfl,ht⟩ := tm_of hT _ ds (Nat.lt_succ_self _) h1 (by omega)
  obtain ⟨bs,rfl,hb⟩ := bnds_of hT rs h.2 (by omega)
  exact ⟨(a,t) :: bs,rfl,fun b hm => by
   rcases List.mem_cons.1 hm with rfl | hm
   · exact ht
   · exact hb b hm⟩
def ofold {α σ : Type} (step : α -> σ -> Option σ) : List α -> σ -> Option σ
 | [],s => some s
 | x :: xs,s => match step x s with
  | some s' => ofold step xs s'
  | none => none
theorem fold_loop {α σ : Type} {F : Nat -> σ -> R} {xs : List α} (step : α -> σ -> Option σ) {A : σ -> R} {B : R} (hs : ∀ i (hi : i < xs.length) s,F i s = match step xs[i] s with | some s' => F (i + 1) s' | none => B) (he : ∀ s,F xs.length s = A s) (s : σ) :
 F 0 s = match ofold step xs s with | some r => A r | none => B := by
 have key : ∀ (n i : Nat) (s : σ),i + n = xs.length -> F i s = match ofold step (xs.drop i) s with | some r => A r | none => B := by
  intro n
  induction n with
  | zero =>
   intro i s hi
   have : i = xs.length := by omega
   subst this
   rw [List.drop_length,he]; rfl
  | succ n ih =>
   intro i s hi
   have hlt : i < xs.length := by omega
   rw [hs i hlt,List.drop_eq_getElem_cons hlt]
   simp only [ofold]
   cases step xs[i] s with
   | none => rfl
   | some s' => exact ih (i + 1) s' (by omega)
 simpa using key xs.length 0 s (by omega)
theorem vals_len (n : Nat) (c : Int) : (vals n c).length <= n := by
 unfold vals
 split
 · rename_i h
   match n with
   | 0 => simp
   | 1 => simp
   | 2 => simp
   | n + 3 =>
    simp
 · simp
theorem cnt4_big {n : Nat} (h : 3 < n) : cnt4 n = 0 := by unfold cnt4; rw [if_neg (by omega)]
theorem cnt4_le (n : Nat) : 0 <= cnt4 n /\ cnt4 n <= 64 := by
 by_cases h : 3 < n
 · rw [cnt4_big h]; decide
 · obtain rfl | rfl | rfl | rfl : n = 0 \/ n = 1 \/ n = 2 \/ n = 3 := by omega
   all_goals decide
theorem isC_le {n : Nat} {c : Int} (h : isC n c = true) : n <= 3 /\ 0 <= c /\ c < 64 := by
 simp only [isC,Bool.and_eq_true,decide_eq_true_eq] at h
 obtain ⟨h1,h2⟩ := h
 have h3 := cnt4_le n
 by_cases hn : 3 < n
 · rw [cnt4_big hn] at h2; omega
 · omega
def mapStep (vars : List ByteArray) (c : Int) (l : List Bnd) (s : ByteArray) (out : Int) : Option Int :=
 match bnd l s with
 | none => none
 | some t => if isW (inst vars t c) then some (IntKind.i64.wrap (IntKind.i64.wrap (4 * out) + (inst vars t c).n)) else none
end Go.Q
namespace Go.Q
def mapRes (vars : List ByteArray) (c : Int) (target : List ByteArray) (l : List Bnd) : Int × Bool :=
 if isC vars.length c = true /\ target.length <= 3 then (match ofold (mapStep vars c l) target 0 with | some r => (r,true) | none => (0,false)) else (0,false)
theorem mapRes_eq (vars : List ByteArray) (c : Int) (target : List ByteArray) (l : List Bnd) : (if isC vars.length c = true /\ target.length <= 3 then (match ofold (mapStep vars c l) target 0 with | some r => (some (0,[.int r,.bool true]) : R) | none => some (0,[.int 0,.bool false])) else some (0,[.int 0,.bool false])) =
 some (0,[.int (mapRes vars c target l).1,.bool (mapRes vars c target l).2]) := by
 unfold mapRes
 split
 · cases ofold (mapStep vars c l) target 0 <;> rfl
 · rfl
end Go.Q
