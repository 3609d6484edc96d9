/- Terms, substitutions, words: what the functions compute. -/
import Derived.Test.YthlngiieofkmiaaGreatQC
set_option linter.unusedVariables false
namespace Go.Q
open Go
inductive Tm where
 | mk (k n : Int) (s : ByteArray) (as : List Tm)
namespace Tm
def k : Tm -> Int | mk k _ _ _ => k
def n : Tm -> Int | mk _ n _ _ => n
def s : Tm -> ByteArray | mk _ _ s _ => s
def as : Tm -> List Tm | mk _ _ _ as => as
mutual
def row : Tm -> List D
 | mk k n s as => [.int k,.int n,.str s,.sl (rows as)]
def rows : List Tm -> List (List D)
 | [] => []
 | t :: ts => row t :: rows ts
end
theorem rows_map : ∀ ts : List Tm,rows ts = ts.map row
 | [] => rfl
 | t :: ts => by simp only [rows,List.map_cons,rows_map ts]
theorem row_eq (t : Tm) : t.row = [.int t.k,.int t.n,.str t.s,.sl (t.as.map row)] := by
 cases t; simp only [row,rows_map,Tm.k,Tm.n,Tm.s,Tm.as]
theorem ind {P : Tm -> Prop} (h : ∀ t,(∀ a ∈ t.as,P a) -> P t) : ∀ t,P t := by
 have key : ∀ (N : Nat) (t : Tm),SizeOf.sizeOf t < N -> P t := by
  intro N
  induction N with
  | zero => intro t ht; omega
  | succ N ih =>
   intro t ht
   refine h t fun a ha => ih a ?_
   cases t with
   | mk k n s as =>
    simp only [Tm.as] at ha
    have := List.sizeOf_lt_of_mem ha
    simp only [mk.sizeOf_spec] at ht
    omega
 exact fun t => key _ t (Nat.lt_succ_self _)
end Tm
inductive Small : Tm -> Prop
 | mk {t : Tm} : t.as.length <= 1048576 -> (∀ a ∈ t.as,Small a) -> Small t
theorem Small.len {t : Tm} (h : Small t) : t.as.length <= 1048576 := by cases h; assumption
theorem Small.sub {t a : Tm} (h : Small t) (ha : a ∈ t.as) : Small a := by cases h with | mk _ h => exact h a ha
theorem small_word (n : Int) (s : ByteArray) (k : Int) : Small (.mk k n s []) := .mk (by simp [Tm.as]) (by simp [Tm.as])
structure TmTy (H : Tab) (e : TypeId) (lay : List CT) : Prop where
 eq : lay = [.int .i64,.int .i64,.str,.sl e]
 ty : ∃ ti,H.ty e = some ti /\ ti.lay = lay
theorem tm_of {H : Tab} {e : TypeId} {lay : List CT} (hT : TmTy H e lay) : ∀ (N : Nat) (ds : List D),SizeOf.sizeOf ds < N -> WL H ds lay -> szL ds <= 1048576 -> ∃ t : Tm,ds = t.row /\ Small t
 | 0,ds,hN,_,_ => absurd hN (Nat.not_lt_zero _)
 | N + 1,ds,hN,h,hz => by
  have h0 := h
  obtain ⟨ti,hty,hl⟩ := hT.ty
  rw [hT.eq] at h
  obtain ⟨a0,_,rfl,_,h⟩ := wl_int h
  obtain ⟨a1,_,rfl,_,h⟩ := wl_int h
  obtain ⟨a2,_,rfl,b2,h⟩ := wl_str h
  obtain ⟨a3,_,rfl,b3,c3,h⟩ := wl_sl hty h
  obtain rfl := wl_nil h
  simp only [szL,D.sz] at hz
  have key : ∀ rs : Rows,(∀ r ∈ rs,r ∈ a3) -> ∃ ts : List Tm,rs = ts.map Tm.row /\ ∀ t ∈ ts,Small t := by
   intro rs
   induction rs with
   | nil => intro _; exact ⟨[],rfl,by simp⟩
   | cons r rs ih =>
    intro hm
    obtain ⟨ts,e1,e2⟩ := ih fun r hr => hm r (List.mem_cons_of_mem _ hr)
    have hr := hm r (List.mem_cons_self ..)
    have hw := WRs_mem c3 hr
    rw [hl] at hw
    have h1 := size_row hr
    obtain ⟨t,e3,e4⟩ := tm_of hT N r (by simp only [List.cons.sizeOf_spec,D.sl.sizeOf_spec] at hN; omega) hw (by have := szR_mem hr; omega)
    exact ⟨t :: ts,by rw [e1,e3]; rfl,fun x hx => by
     rcases List.mem_cons.1 hx with rfl | hx
     · exact e4
     · exact e2 x hx⟩
  obtain ⟨ts,e1,e2⟩ := key a3 fun _ h => h
  refine ⟨.mk a0 a1 a2 ts,by rw [Tm.row_eq]; simp only [Tm.k,Tm.n,Tm.s,Tm.as,e1],.mk ?_ e2⟩
  have : a3.length = ts.length := by rw [e1]; simp
  simp only [Tm.as]; omega
theorem strs_of {H : Tab} : ∀ (rs : Rows),WRs H rs [.str] -> ∃ ss : List ByteArray,rs = ss.map fun s => [.str s]
 | [],_ => ⟨[],rfl⟩
 | r :: rs,h => by
  simp only [WRs] at h
  obtain ⟨a,_,rfl,_,h1⟩ := wl_str h.1
  obtain rfl := wl_nil h1
  obtain ⟨ss,rfl⟩ := strs_of rs h.2
  exact ⟨a :: ss,rfl⟩
theorem ints_of {H : Tab} : ∀ (rs : Rows),WRs H rs [.int .i64] -> ∃ ss : List Int,rs = ss.map fun s => [.int s]
 | [],_ => ⟨[],rfl⟩
 | r :: rs,h => by
  simp only [WRs] at h
  obtain ⟨a,_,rfl,_,h1⟩ := wl_int h.1
  obtain rfl := wl_nil h1
  obtain ⟨ss,rfl⟩ := ints_of rs h.2
  exact ⟨a :: ss,rfl⟩
abbrev Bnd := ByteArray × Tm
def Bnd.row (b : Bnd) : List D := .str b.1 :: b.2.row
theorem bd_row (b : Bnd) : Bnd.row b = [.str b.1,.int b.2.k,.int b.2.n,.str b.2.s,.sl (b.2.as.map Tm.row)] := by unfold Bnd.row; rw [Tm.row_eq]
def bnd : List Bnd -> ByteArray -> Option Tm
 | [],_ => none
 | b :: r,s => if b.1 = s then some b.2 else bnd r s
def tm0 : Tm := .mk 0 0 ⟨#[]⟩ []
theorem bnd_mem {l : List Bnd} {s : ByteArray} {t : Tm} (h : bnd l s = some t) : ∃ b ∈ l,b.2 = t := by
 induction l with
 | nil => simp [bnd] at h
 | cons b l ih =>
  simp only [bnd] at h
  split at h
  · exact ⟨b,List.mem_cons_self ..,by simpa using h⟩
  · obtain ⟨b',h1,h2⟩ := ih h; exact ⟨b',List.mem_cons_of_mem _ h1,h2⟩
mutual
def aS (l : List Bnd) : Tm -> Tm
 | .mk k n s as => match (if k = 1 then bnd l s else none) with
  | some u => u
  | none => .mk k n s (aSs l as)
def aSs (l : List Bnd) : List Tm -> List Tm
 | [] => []
 | t :: ts => aS l t :: aSs l ts
end
theorem aSs_map (l : List Bnd) : ∀ ts,aSs l ts = ts.map (aS l)
 | [] => rfl
 | t :: ts => by simp only [aSs,List.map_cons,aSs_map l ts]
theorem aS_eq (l : List Bnd) (t : Tm) : aS l t = match (if t.k = 1 then bnd l t.s else none) with
 | some u => u
 | none => .mk t.k t.n t.s (t.as.map (aS l)) := by cases t; simp only [aS,aSs_map,Tm.k,Tm.n,Tm.s,Tm.as]; rfl
theorem aS_small {l : List Bnd} (hl : ∀ b ∈ l,Small b.2) : ∀ t,Small t -> Small (aS l t) := Tm.ind fun t ih h => by
 rw [aS_eq]
 split
 · rename_i u hu
   split at hu
   · obtain ⟨b,h1,rfl⟩ := bnd_mem hu; exact hl b h1
   · simp at hu
 · exact .mk (by simpa [Tm.as] using h.len) (fun a ha => by
    simp only [Tm.as,List.mem_map] at ha
    obtain ⟨x,hx,rfl⟩ := ha
    exact ih x hx (h.sub hx))
def isW (t : Tm) : Bool := decide (t.k = 3) && (decide (0 <= t.n) && (decide (t.n < 4) && (decide (t.s = ⟨#[]⟩) && decide (t.as.length = 0))))
def plusS : ByteArray := ⟨#[112,108,117,115]⟩
def minusS : ByteArray := ⟨#[109,105,110,117,115]⟩
def timesS : ByteArray := ⟨#[116,105,109,101,115]⟩
def isB (s : ByteArray) : Bool := decide (s = plusS) || (decide (s = minusS) || decide (s = timesS))
def cmp (s : ByteArray) (a b : Int) : Int := if s = plusS then (a + b).tmod 4 else if s = minusS then (a - b + 4).tmod 4 else (a * b).tmod 4
def rW1 (k n : Int) (s : ByteArray) (as : List Tm) : Tm :=
 match as with
 | [x,y] => if k = 2 /\ n = 0 /\ isB s = true /\ isW x = true /\ isW y = true then .mk 3 (cmp s x.n y.n) ⟨#[]⟩ [] else .mk k n s as
 | _ => .mk k n s as
mutual
def rW : Tm -> Tm
 | .mk k n s as => rW1 k n s (rWs as)
def rWs : List Tm -> List Tm
 | [] => []
 | t :: ts => rW t :: rWs ts
end
theorem rWs_map : ∀ ts,rWs ts = ts.map rW
 | [] => rfl
 | t :: ts => by simp only [rWs,List.map_cons,rWs_map ts]
theorem rW_eq (t : Tm) : rW t = rW1 t.k t.n t.s (t.as.map rW) := by cases t; simp only [rW,rWs_map,Tm.k,Tm.n,Tm.s,Tm.as]
theorem rW1_small {k n : Int} {s : ByteArray} {as : List Tm} (h : as.length <= 1048576) (ha : ∀ a ∈ as,Small a) : Small (rW1 k n s as) := by
 unfold rW1
 split
 · split
   · exact small_word ..
   · exact .mk (by simp [Tm.as]) (by simpa [Tm.as] using ha)
 · exact .mk h ha
theorem rW_small : ∀ t,Small t -> Small (rW t) := Tm.ind fun t ih h => by
 rw [rW_eq]
 exact rW1_small (by simpa using h.len) fun a ha => by
  simp only [List.mem_map] at ha
  obtain ⟨x,hx,rfl⟩ := ha
  exact ih x hx (h.sub hx)
def cnt4 (n : Nat) : Int := if n <= 3 then 4 ^ n else 0
def isC (n : Nat) (c : Int) : Bool := decide (0 <= c) && decide (c < cnt4 n)
def vals (n : Nat) (c : Int) : List Int :=
 if isC n c then (match n with
  | 0 => []
  | 1 => [c.tmod 4]
  | 2 => [(c.tdiv 4).tmod 4,c.tmod 4]
  | _ => [((c.tdiv 4).tdiv 4).tmod 4,(c.tdiv 4).tmod 4,c.tmod 4]) else []
def word (n : Int) : Tm := .mk 3 n ⟨#[]⟩ []
def caseS (vars : List ByteArray) (c : Int) : List Bnd := (vars.zip (vals vars.length c)).map fun p => (p.1,word p.2)
def inst (vars : List ByteArray) (t : Tm) (c : Int) : Tm := rW (aS (caseS vars c) t)
theorem caseS_small (vars : List ByteArray) (c : Int) : ∀ b ∈ caseS vars c,Small b.2 := fun b hb => by
 unfold caseS at hb
 simp only [List.mem_map] at hb
 obtain ⟨p,_,rfl⟩ := hb
 exact small_word ..
theorem inst_small {vars : List ByteArray} {t : Tm} (h : Small t) (c : Int) : Small (inst vars t c) := rW_small _ (aS_small (caseS_small vars c) t h)
theorem map_loop {α : Type} {F : Nat -> Rows -> R} {xs : List α} (g : α -> List D) {K : Rows -> R}
 (hs : ∀ i (hi : i < xs.length) acc,acc.length = i -> F i acc = F (i + 1) (acc ++ [g xs[i]])) (he : ∀ acc,F xs.length acc = K acc) : F 0 [] = K (xs.map g) := by
 have key : ∀ (n i : Nat),i + n = xs.length -> F i ((xs.take i).map g) = K (xs.map g) := by
  intro n
  induction n with
  | zero =>
   intro i hi
   have : i = xs.length := by omega
   subst this
   rw [he,List.take_length]
  | succ n ih =>
   intro i hi
   have hlt : i < xs.length := by omega
   rw [hs i hlt _ (by simp; omega),<- ih (i + 1) (by omega),List.take_succ_eq_append_getElem hlt]
   simp only [List.map_append,List.map_cons,List.map_nil]
 simpa using key xs.length 0 (by omega)
theorem find_loop {α : Type} {F : Nat -> R} {xs : List α} {p : α -> Bool} {A : R} {B : Nat -> α -> R} (hs : ∀ i (hi : i < xs.length),F i = bif p xs[i] then B i xs[i] else F (i + 1)) (he : F xs.length = A) :
 (xs.find? p = none /\ F 0 = A) \/ ∃ i,∃ hi : i < xs.length,xs.find? p = some xs[i] /\ F 0 = B i xs[i] := by
 have key : ∀ (n i : Nat),i + n = xs.length -> ((xs.drop i).find? p = none /\ F i = A) \/ ∃ j,∃ hj : j < xs.length,(xs.drop i).find? p = some xs[j] /\ F i = B j xs[j] := by
  intro n
  induction n with
  | zero =>
   intro i hi
   have : i = xs.length := by omega
   subst this
   left; rw [List.drop_length]; exact ⟨rfl,he⟩
  | succ n ih =>
   intro i hi
   have hlt : i < xs.length := by omega
   rw [hs i hlt,List.drop_eq_getElem_cons hlt]
   simp only [List.find?_cons]
   cases hp : p xs[i] with
   | true => exact .inr ⟨i,hlt,by simp,by simp⟩
   | false => simpa using ih (i + 1) (by omega)
 simpa using key xs.length 0 (by omega)
theorem bnd_find (l : List Bnd) (s : ByteArray) : bnd l s = (l.find? fun b => decide (b.1 = s)).map (·.2) := by
 induction l with
 | nil => rfl
 | cons b l ih =>
  simp only [bnd,List.find?_cons]
  by_cases h : b.1 = s
  · simp [h]
  · simp [h,ih]
theorem rowAt_map {α : Type} {xs : List α} {g : α -> List D} {i : Nat} (hi : i < xs.length) : rowAt (xs.map g) i = g xs[i] := by simp [rowAt,List.getD,hi]
end Go.Q
