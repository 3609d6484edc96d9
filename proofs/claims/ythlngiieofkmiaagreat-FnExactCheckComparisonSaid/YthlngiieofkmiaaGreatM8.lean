/- Names in ascending order, each once. -/
import Derived.Test.YthlngiieofkmiaaGreatM3
import Derived.Test.YthlngiieofkmiaaGreatQC
set_option linter.unusedVariables false
namespace Go.Q
open Go
theorem nth0 (a0 : D) (l : List D) : nth (a0 :: l) 0 = a0 := rfl
theorem nth1 (a0 a1 : D) (l : List D) : nth (a0 :: a1 :: l) 1 = a1 := rfl
theorem nth2 (a0 a1 a2 : D) (l : List D) : nth (a0 :: a1 :: a2 :: l) 2 = a2 := rfl
theorem nth3 (a0 a1 a2 a3 : D) (l : List D) : nth (a0 :: a1 :: a2 :: a3 :: l) 3 = a3 := rfl
theorem nth4 (a0 a1 a2 a3 a4 : D) (l : List D) : nth (a0 :: a1 :: a2 :: a3 :: a4 :: l) 4 = a4 := rfl
theorem nth5 (a0 a1 a2 a3 a4 a5 : D) (l : List D) : nth (a0 :: a1 :: a2 :: a3 :: a4 :: a5 :: l) 5 = a5 := rfl
theorem nth6 (a0 a1 a2 a3 a4 a5 a6 : D) (l : List D) : nth (a0 :: a1 :: a2 :: a3 :: a4 :: a5 :: a6 :: l) 6 = a6 := rfl
theorem nth7 (a0 a1 a2 a3 a4 a5 a6 a7 : D) (l : List D) : nth (a0 :: a1 :: a2 :: a3 :: a4 :: a5 :: a6 :: a7 :: l) 7 = a7 := rfl
theorem nth8 (a0 a1 a2 a3 a4 a5 a6 a7 a8 : D) (l : List D) : nth (a0 :: a1 :: a2 :: a3 :: a4 :: a5 :: a6 :: a7 :: a8 :: l) 8 = a8 := rfl
theorem nth9 (a0 a1 a2 a3 a4 a5 a6 a7 a8 a9 : D) (l : List D) : nth (a0 :: a1 :: a2 :: a3 :: a4 :: a5 :: a6 :: a7 :: a8 :: a9 :: l) 9 = a9 := rfl
theorem nth10 (a0 a1 a2 a3 a4 a5 a6 a7 a8 a9 a10 : D) (l : List D) : nth (a0 :: a1 :: a2 :: a3 :: a4 :: a5 :: a6 :: a7 :: a8 :: a9 :: a10 :: l) 10 = a10 := rfl
theorem nth11 (a0 a1 a2 a3 a4 a5 a6 a7 a8 a9 a10 a11 : D) (l : List D) : nth (a0 :: a1 :: a2 :: a3 :: a4 :: a5 :: a6 :: a7 :: a8 :: a9 :: a10 :: a11 :: l) 11 = a11 := rfl
theorem nth12 (a0 a1 a2 a3 a4 a5 a6 a7 a8 a9 a10 a11 a12 : D) (l : List D) : nth (a0 :: a1 :: a2 :: a3 :: a4 :: a5 :: a6 :: a7 :: a8 :: a9 :: a10 :: a11 :: a12 :: l) 12 = a12 := rfl
theorem nth13 (a0 a1 a2 a3 a4 a5 a6 a7 a8 a9 a10 a11 a12 a13 : D) (l : List D) : nth (a0 :: a1 :: a2 :: a3 :: a4 :: a5 :: a6 :: a7 :: a8 :: a9 :: a10 :: a11 :: a12 :: a13 :: l) 13 = a13 := rfl
theorem nth14 (a0 a1 a2 a3 a4 a5 a6 a7 a8 a9 a10 a11 a12 a13 a14 : D) (l : List D) : nth (a0 :: a1 :: a2 :: a3 :: a4 :: a5 :: a6 :: a7 :: a8 :: a9 :: a10 :: a11 :: a12 :: a13 :: a14 :: l) 14 = a14 := rfl
theorem nth15 (a0 a1 a2 a3 a4 a5 a6 a7 a8 a9 a10 a11 a12 a13 a14 a15 : D) (l : List D) : nth (a0 :: a1 :: a2 :: a3 :: a4 :: a5 :: a6 :: a7 :: a8 :: a9 :: a10 :: a11 :: a12 :: a13 :: a14 :: a15 :: l) 15 = a15 := rfl
theorem nth16 (a0 a1 a2 a3 a4 a5 a6 a7 a8 a9 a10 a11 a12 a13 a14 a15 a16 : D) (l : List D) : nth (a0 :: a1 :: a2 :: a3 :: a4 :: a5 :: a6 :: a7 :: a8 :: a9 :: a10 :: a11 :: a12 :: a13 :: a14 :: a15 :: a16 :: l) 16 = a16 := rfl
theorem nth17 (a0 a1 a2 a3 a4 a5 a6 a7 a8 a9 a10 a11 a12 a13 a14 a15 a16 a17 : D) (l : List D) : nth (a0 :: a1 :: a2 :: a3 :: a4 :: a5 :: a6 :: a7 :: a8 :: a9 :: a10 :: a11 :: a12 :: a13 :: a14 :: a15 :: a16 :: a17 :: l) 17 = a17 := rfl
theorem nth18 (a0 a1 a2 a3 a4 a5 a6 a7 a8 a9 a10 a11 a12 a13 a14 a15 a16 a17 a18 : D) (l : List D) : nth (a0 :: a1 :: a2 :: a3 :: a4 :: a5 :: a6 :: a7 :: a8 :: a9 :: a10 :: a11 :: a12 :: a13 :: a14 :: a15 :: a16 :: a17 :: a18 :: l) 18 = a18 := rfl
theorem nth19 (a0 a1 a2 a3 a4 a5 a6 a7 a8 a9 a10 a11 a12 a13 a14 a15 a16 a17 a18 a19 : D) (l : List D) : nth (a0 :: a1 :: a2 :: a3 :: a4 :: a5 :: a6 :: a7 :: a8 :: a9 :: a10 :: a11 :: a12 :: a13 :: a14 :: a15 :: a16 :: a17 :: a18 :: a19 :: l) 19 = a19 := rfl
theorem nth20 (a0 a1 a2 a3 a4 a5 a6 a7 a8 a9 a10 a11 a12 a13 a14 a15 a16 a17 a18 a19 a20 : D) (l : List D) : nth (a0 :: a1 :: a2 :: a3 :: a4 :: a5 :: a6 :: a7 :: a8 :: a9 :: a10 :: a11 :: a12 :: a13 :: a14 :: a15 :: a16 :: a17 :: a18 :: a19 :: a20 :: l) 20 = a20 := rfl
theorem nth21 (a0 a1 a2 a3 a4 a5 a6 a7 a8 a9 a10 a11 a12 a13 a14 a15 a16 a17 a18 a19 a20 a21 : D) (l : List D) : nth (a0 :: a1 :: a2 :: a3 :: a4 :: a5 :: a6 :: a7 :: a8 :: a9 :: a10 :: a11 :: a12 :: a13 :: a14 :: a15 :: a16 :: a17 :: a18 :: a19 :: a20 :: a21 :: l) 21 = a21 := rfl
theorem nth22 (a0 a1 a2 a3 a4 a5 a6 a7 a8 a9 a10 a11 a12 a13 a14 a15 a16 a17 a18 a19 a20 a21 a22 : D) (l : List D) : nth (a0 :: a1 :: a2 :: a3 :: a4 :: a5 :: a6 :: a7 :: a8 :: a9 :: a10 :: a11 :: a12 :: a13 :: a14 :: a15 :: a16 :: a17 :: a18 :: a19 :: a20 :: a21 :: a22 :: l) 22 = a22 := rfl
theorem nth23 (a0 a1 a2 a3 a4 a5 a6 a7 a8 a9 a10 a11 a12 a13 a14 a15 a16 a17 a18 a19 a20 a21 a22 a23 : D) (l : List D) : nth (a0 :: a1 :: a2 :: a3 :: a4 :: a5 :: a6 :: a7 :: a8 :: a9 :: a10 :: a11 :: a12 :: a13 :: a14 :: a15 :: a16 :: a17 :: a18 :: a19 :: a20 :: a21 :: a22 :: a23 :: l) 23 = a23 := rfl
theorem nth24 (a0 a1 a2 a3 a4 a5 a6 a7 a8 a9 a10 a11 a12 a13 a14 a15 a16 a17 a18 a19 a20 a21 a22 a23 a24 : D) (l : List D) : nth (a0 :: a1 :: a2 :: a3 :: a4 :: a5 :: a6 :: a7 :: a8 :: a9 :: a10 :: a11 :: a12 :: a13 :: a14 :: a15 :: a16 :: a17 :: a18 :: a19 :: a20 :: a21 :: a22 :: a23 :: a24 :: l) 24 = a24 := rfl
theorem nth25 (a0 a1 a2 a3 a4 a5 a6 a7 a8 a9 a10 a11 a12 a13 a14 a15 a16 a17 a18 a19 a20 a21 a22 a23 a24 a25 : D) (l : List D) : nth (a0 :: a1 :: a2 :: a3 :: a4 :: a5 :: a6 :: a7 :: a8 :: a9 :: a10 :: a11 :: a12 :: a13 :: a14 :: a15 :: a16 :: a17 :: a18 :: a19 :: a20 :: a21 :: a22 :: a23 :: a24 :: a25 :: l) 25 = a25 := rfl
theorem dI (n : Int) : (D.int n).I = n := rfl
theorem dB (b : Bool) : (D.bool b).B = b := rfl
theorem dS (s : ByteArray) : (D.str s).S = s := rfl
theorem dL (r : Rows) : (D.sl r).L = r := rfl
abbrev Ky := List UInt8
theorem key_inj {a b : ByteArray} (h : a.data.toList = b.data.toList) : a = b := by
 cases a; cases b; simp only at h; congr 1; exact Array.ext' h
theorem bytesLess_lt : ∀ (x y : List UInt8),Op.bytesLess x y = decide (x < y)
 | x,[] => by simp [Op.bytesLess]
 | [],y :: ys => by simp [Op.bytesLess]
 | a :: x,b :: y => by
  unfold Op.bytesLess
  rw [bytesLess_lt x y]
  rw [Bool.eq_iff_iff]
  simp only [Bool.or_eq_true,Bool.and_eq_true,decide_eq_true_eq,beq_iff_eq,List.cons_lt_cons_iff]
theorem ltB_key (a b : ByteArray) : ltB a b = decide (a.data.toList < b.data.toList) := by
 unfold ltB
 rw [bytesLess_lt,ByteArray.toList_eq,ByteArray.toList_eq]
theorem ky_irrefl (a : Ky) : ¬ a < a := List.lt_irrefl a
theorem ky_trans {a b c : Ky} (h : a < b) (k : b < c) : a < c := List.lt_trans h k
theorem ky_tri (a b : Ky) : a < b \/ a = b \/ b < a := by
 by_cases h : a < b
 · exact .inl h
 · by_cases k : b < a
   · exact .inr (.inr k)
   · exact .inr (.inl (List.le_antisymm k h))
def Asc (l : List Ky) : Prop := l.Pairwise (· < ·)
theorem asc_ext : ∀ {l m : List Ky},Asc l -> Asc m -> (∀ x,x ∈ l ↔ x ∈ m) -> l = m
 | [],m,hl,hm,h => by
  cases m with
  | nil => rfl
  | cons y m => exact absurd ((h y).2 (List.mem_cons_self ..)) (by simp)
 | x :: l,[],hl,hm,h => absurd ((h x).1 (List.mem_cons_self ..)) (by simp)
 | x :: l,y :: m,hl,hm,h => by
  obtain ⟨h1,h2⟩ := List.pairwise_cons.1 hl
  obtain ⟨h3,h4⟩ := List.pairwise_cons.1 hm
  have e : x = y := by
   rcases List.mem_cons.1 ((h x).1 (List.mem_cons_self ..)) with e | hx
   · exact e
   · rcases List.mem_cons.1 ((h y).2 (List.mem_cons_self ..)) with e | hy
     · exact e.symm
     · exact absurd (ky_trans (h3 x hx) (h1 y hy)) (ky_irrefl _)
  subst e
  congr 1
  refine asc_ext h2 h4 fun z => ⟨fun hz => ?_,fun hz => ?_⟩
  · rcases List.mem_cons.1 ((h z).1 (List.mem_cons_of_mem _ hz)) with e | hz'
    · exact absurd (e ▸ h1 z hz) (ky_irrefl _)
    · exact hz'
  · rcases List.mem_cons.1 ((h z).2 (List.mem_cons_of_mem _ hz)) with e | hz'
    · exact absurd (e ▸ h3 z hz) (ky_irrefl _)
    · exact hz'
theorem compact_asc {l : List Ky} (h : l.Pairwise fun a b => ¬ b < a) : Asc (Lib.compact l) /\ ∀ x,x ∈ Lib.compact l ↔ x ∈ l := by
 have hg : ∀ i j,i < j -> j < l.length -> ¬ l.toArray[j]! < l.toArray[i]! := fun i j hij hj => by
  rw [getElem!_pos l.toArray j (by simpa using hj),getElem!_pos l.toArray i (by simp; omega)]
  simp only [List.getElem_toArray]
  exact List.pairwise_iff_getElem.1 h i j (by omega) hj hij
 unfold Lib.compact Lib.compactUpTo
 constructor
 · unfold Asc
   rw [List.pairwise_map]
   have hp : ((List.range l.length).filter (Lib.keeps l.toArray)).Pairwise fun i j => i < j /\ j < l.length /\ Lib.keeps l.toArray j = true := by
    have h1 : (List.range l.length).Pairwise fun i j => i < j := List.pairwise_lt_range
    have h2 := h1.sublist (List.filter_sublist (p := Lib.keeps l.toArray))
    refine List.Pairwise.imp_of_mem (fun {a b} ha hb hab => ?_) h2
    have hb' := List.mem_filter.1 hb
    exact ⟨hab,by simpa using hb'.1,hb'.2⟩
   refine hp.imp fun {i j} ⟨hij,hj,hk⟩ => ?_
   simp only [Lib.keeps,decide_eq_true_eq] at hk
   have hne : l.toArray[j]! ≠ l.toArray[j - 1]! := hk.resolve_left (by omega)
   have h1 : l.toArray[j - 1]! < l.toArray[j]! := by
    rcases ky_tri l.toArray[j - 1]! l.toArray[j]! with h | h | h
    · exact h
    · exact absurd h.symm hne
    · exact absurd h (hg (j - 1) j (by omega) hj)
   by_cases hij' : i = j - 1
   · rw [hij']; exact h1
   · have h2 := hg i (j - 1) (by omega) (by omega)
     rcases ky_tri l.toArray[i]! l.toArray[j - 1]! with h | h | h
     · exact ky_trans h h1
     · rw [h]; exact h1
     · exact absurd h h2
 · intro x
   simp only [List.mem_map,List.mem_filter,List.mem_range]
   constructor
   · rintro ⟨j,⟨hj,_⟩,rfl⟩
     rw [getElem!_pos l.toArray j (by simpa using hj)]
     simp
   · intro hx
     obtain ⟨j,hj,rfl⟩ := List.mem_iff_getElem.1 hx
     have key : ∀ n j (hj : j < l.length),j <= n -> ∃ k,(k < l.length /\ Lib.keeps l.toArray k = true) /\ l.toArray[k]! = l[j] := by
      intro n
      induction n with
      | zero =>
       intro j hj hn
       obtain rfl : j = 0 := by omega
       exact ⟨0,⟨hj,by simp [Lib.keeps]⟩,by rw [getElem!_pos l.toArray 0 (by simpa using hj)]; simp⟩
      | succ n ih =>
       intro j hj hn
       by_cases hk : Lib.keeps l.toArray j = true
       · exact ⟨j,⟨hj,hk⟩,by rw [getElem!_pos l.toArray j (by simpa using hj)]; simp⟩
       · simp only [Lib.keeps,decide_eq_true_eq] at hk
         have h0 : j ≠ 0 := fun e => hk (.inl e)
         have he : l.toArray[j]! = l.toArray[j - 1]! := Classical.byContradiction fun hne => hk (.inr hne)
         obtain ⟨k,hk1,hk2⟩ := ih (j - 1) (by omega) (by omega)
         refine ⟨k,hk1,hk2.trans ?_⟩
         rw [getElem!_pos l.toArray j (by simpa using hj),getElem!_pos l.toArray (j - 1) (by simp; omega)] at he
         simpa using he.symm
     exact key j j hj (Nat.le_refl _)
def insK (x : Ky) : List Ky -> List Ky
 | [] => [x]
 | y :: r => if y < x then y :: insK x r else if y = x then y :: r else x :: y :: r
theorem insK_mem (x z : Ky) : ∀ l : List Ky,z ∈ insK x l ↔ z = x \/ z ∈ l
 | [] => by simp [insK]
 | y :: r => by
  unfold insK
  split
  · simp only [List.mem_cons,insK_mem x z r]; exact ⟨fun h => by rcases h with h | h | h <;> simp [h],fun h => by rcases h with h | h | h <;> simp [h]⟩
  · split
    · rename_i h; subst h; simp
    · simp
theorem insK_asc (x : Ky) : ∀ {l : List Ky},Asc l -> Asc (insK x l)
 | [],h => by simp [insK,Asc]
 | y :: r,h => by
  obtain ⟨h1,h2⟩ := List.pairwise_cons.1 h
  unfold insK
  split
  · rename_i hyx
    refine List.pairwise_cons.2 ⟨fun z hz => ?_,insK_asc x h2⟩
    rcases (insK_mem x z r).1 hz with rfl | hz
    · exact hyx
    · exact h1 z hz
  · split
    · exact h
    · rename_i h3 h4
      have hxy : x < y := (ky_tri x y).elim id fun h => h.elim (fun h => absurd h.symm h4) fun h => absurd h h3
      refine List.pairwise_cons.2 ⟨fun z hz => ?_,h⟩
      rcases List.mem_cons.1 hz with rfl | hz
      · exact hxy
      · exact ky_trans hxy (h1 z hz)
def srtK : List Ky -> List Ky -> List Ky
 | [],acc => acc
 | x :: r,acc => srtK r (insK x acc)
theorem srtK_spec : ∀ (l : List Ky) {acc : List Ky},Asc acc -> Asc (srtK l acc) /\ ∀ z,z ∈ srtK l acc ↔ z ∈ l \/ z ∈ acc
 | [],acc,h => ⟨h,by simp [srtK]⟩
 | x :: r,acc,h => by
  obtain ⟨h1,h2⟩ := srtK_spec r (insK_asc x h)
  refine ⟨h1,fun z => ?_⟩
  simp only [srtK,h2,insK_mem,List.mem_cons]
  exact ⟨fun h => by rcases h with h | h | h <;> simp [h],fun h => by rcases h with (h | h) | h <;> simp [h]⟩
theorem sort_pair (l : List Ky) : (l.mergeSort fun x y => decide (x <= y)).Pairwise fun a b => ¬ b < a := by
 have h := List.pairwise_mergeSort (le := fun x y : Ky => decide (x <= y)) (fun a b c h1 h2 => by
  simp only [decide_eq_true_eq] at *
  exact List.le_trans h1 h2) (fun a b => by
  simp only [Bool.or_eq_true,decide_eq_true_eq]
  exact List.le_total a b) l
 exact h.imp fun {a b} hab => by simpa using hab
theorem compact_sort (l : List Ky) : Lib.compact (l.mergeSort fun x y => decide (x <= y)) = srtK l [] := by
 obtain ⟨h1,h2⟩ := compact_asc (sort_pair l)
 obtain ⟨h3,h4⟩ := srtK_spec l (acc := []) (by simp [Asc])
 refine asc_ext h1 h3 fun x => ?_
 rw [h2,h4,(List.mergeSort_perm l _).mem_iff]
 simp
def ofK (k : Ky) : ByteArray := ⟨k.toArray⟩
def toK (b : ByteArray) : Ky := b.data.toList
theorem ofK_toK (b : ByteArray) : ofK (toK b) = b := by simp [ofK,toK]
theorem toK_ofK (k : Ky) : toK (ofK k) = k := by simp [ofK,toK]
def srtN (l : List ByteArray) : List ByteArray := (srtK (l.map toK) []).map ofK
theorem srtN_mem (l : List ByteArray) (x : ByteArray) : x ∈ srtN l ↔ x ∈ l := by
 unfold srtN
 rw [List.mem_map]
 constructor
 · rintro ⟨k,hk,rfl⟩
   rcases ((srtK_spec (l.map toK) (acc := []) (by simp [Asc])).2 k).1 hk with hk | hk
   · obtain ⟨b,hb,rfl⟩ := List.mem_map.1 hk
     rw [ofK_toK]; exact hb
   · simp at hk
 · intro hx
   exact ⟨toK x,((srtK_spec (l.map toK) (acc := []) (by simp [Asc])).2 _).2 (.inl (List.mem_map.2 ⟨x,hx,rfl⟩)),ofK_toK x⟩
theorem srtK_len : ∀ (l acc : List Ky),(srtK l acc).length <= l.length + acc.length
 | [],acc => by simp [srtK]
 | x :: r,acc => by
  have h1 : ∀ acc : List Ky,(insK x acc).length <= acc.length + 1 := fun acc => by
   induction acc with
   | nil => simp [insK]
   | cons y acc ih =>
    unfold insK
    by_cases h1 : y < x
    · rw [if_pos h1]; simp only [List.length_cons]; omega
    · rw [if_neg h1]
      by_cases h2 : y = x
      · rw [if_pos h2]; exact Nat.le_succ _
      · rw [if_neg h2]; simp
  have := srtK_len r (insK x acc)
  have := h1 acc
  simp only [srtK,List.length_cons]; omega
theorem srtN_len (l : List ByteArray) : (srtN l).length <= l.length := by
 have := srtK_len (l.map toK) []
 simpa [srtN] using this
theorem rowS_sRow (k : Ky) : rowS k = sRow (ofK k) := rfl
theorem rowS_map (l : List Ky) : l.map rowS = (l.map ofK).map sRow := by rw [List.map_map]; rfl
theorem sRow_map (l : List ByteArray) : l.map sRow = (l.map toK).map rowS := by
 rw [List.map_map]
 exact List.map_congr_left fun b _ => by simp only [Function.comp,rowS_sRow,ofK_toK]
theorem ofK_inj {a b : Ky} : ofK a = ofK b ↔ a = b := ⟨fun h => by rw [<- toK_ofK a,h,toK_ofK],fun h => h ▸ rfl⟩
theorem ltB_ofK (a b : Ky) : ltB (ofK a) (ofK b) = decide (a < b) := by rw [ltB_key]; rfl
theorem sortG_eq (v : Nat) (l : List ByteArray) (h : l.length < 4611686018427387904) : sortG v [.sl (l.map sRow)] = some (0,[.sl (((l.map toK).mergeSort fun x y => decide (x <= y)).map rowS)]) := by
 unfold sortG
 simp only
 rw [sRow_map,strL_map]
 simp only
 rw [show Nat.blt (l.map toK).length 4611686018427387904 = true from Nat.ble_eq_true_of_le (by rw [List.length_map]; exact h)]
 rfl
theorem compG_eq (v : Nat) (l : List Ky) (h : l.length <= 9223372036854775807) : compG v [.sl (l.map rowS)] = some (0,[.sl ((Lib.compact l).map rowS)]) := by
 unfold compG
 simp only
 rw [strL_map]
 simp only
 rw [show Nat.ble l.length 9223372036854775807 = true from Nat.ble_eq_true_of_le h]
 rfl
def ldK (x : Ky) : List Ky -> Nat
 | [] => 0
 | y :: r => if y < x then ldK x r + 1 else 0
theorem ldK_le (x : Ky) : ∀ l : List Ky,ldK x l <= l.length
 | [] => Nat.le_refl _
 | y :: r => by unfold ldK; split; · have := ldK_le x r; simp only [List.length_cons]; omega
                · exact Nat.zero_le _
theorem insK_ld (x : Ky) : ∀ l : List Ky,insK x l = if l[ldK x l]? = some x then l else l.take (ldK x l) ++ [x] ++ l.drop (ldK x l)
 | [] => by simp [insK,ldK]
 | y :: r => by
  unfold insK ldK
  by_cases h : y < x
  · rw [if_pos h,if_pos h,insK_ld x r]
    simp only [List.getElem?_cons_succ,List.take_succ_cons,List.drop_succ_cons,List.cons_append]
    split <;> rfl
  · rw [if_neg h,if_neg h]
    by_cases h2 : y = x
    · rw [if_pos h2]; simp [h2]
    · rw [if_neg h2]; simp [h2]
theorem ldK_drop (x : Ky) (l : List Ky) (a : Nat) (h : a < l.length) : ldK x (l.drop a) = if l[a] < x then ldK x (l.drop (a + 1)) + 1 else 0 := by
 rw [List.drop_eq_getElem_cons h]; rfl
end Go.Q
