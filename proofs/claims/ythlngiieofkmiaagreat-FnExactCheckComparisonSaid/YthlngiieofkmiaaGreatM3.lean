/- Ground terms, guards, cases; drawn values. -/
import Derived.Test.YthlngiieofkmiaaGreatM2
set_option linter.unusedVariables false
namespace Go.Q
open Go
namespace Tm
mutual
def names : Tm -> List ByteArray
 | .mk k _ s as => (if k = 1 then [s] else []) ++ namesL as
def namesL : List Tm -> List ByteArray
 | [] => []
 | t :: ts => names t ++ namesL ts
end
theorem namesL_eq : ∀ ts,namesL ts = ts.flatMap names
 | [] => rfl
 | t :: ts => by simp only [namesL,List.flatMap_cons,namesL_eq ts]
theorem names_eq (t : Tm) : t.names = (if t.k = 1 then [t.s] else []) ++ t.as.flatMap names := by cases t; simp only [names,namesL_eq,Tm.k,Tm.s,Tm.as]; rfl
theorem as_mk (k n : Int) (s : ByteArray) (as : List Tm) : (Tm.mk k n s as).as = as := rfl
theorem k_mk (k n : Int) (s : ByteArray) (as : List Tm) : (Tm.mk k n s as).k = k := rfl
theorem s_mk (k n : Int) (s : ByteArray) (as : List Tm) : (Tm.mk k n s as).s = s := rfl
mutual
def nodes : Tm -> Nat
 | .mk _ _ _ as => 1 + nodesL as
def nodesL : List Tm -> Nat
 | [] => 0
 | t :: ts => nodes t + nodesL ts
end
theorem nodesL_eq : ∀ ts,nodesL ts = (ts.map nodes).sum
 | [] => rfl
 | t :: ts => by simp only [nodesL,List.map_cons,List.sum_cons,nodesL_eq ts]
theorem nodes_eq (t : Tm) : t.nodes = 1 + (t.as.map nodes).sum := by cases t; simp only [nodes,nodesL_eq,Tm.as]
end Tm
theorem flat_len {α : Type} {xs : List α} {f : α -> List ByteArray} {g : α -> Nat} (h : ∀ x ∈ xs,(f x).length <= g x) : (xs.flatMap f).length <= (xs.map g).sum := by
 induction xs with
 | nil => simp
 | cons x xs ih =>
  simp only [List.flatMap_cons,List.length_append,List.map_cons,List.sum_cons]
  have h1 := h x (List.mem_cons_self ..)
  have h2 := ih fun y hy => h y (List.mem_cons_of_mem _ hy)
  omega
theorem names_nodes : ∀ t : Tm,t.names.length <= t.nodes := Tm.ind fun t ih => by
 rw [Tm.names_eq,Tm.nodes_eq,List.length_append]
 have := flat_len (xs := t.as) (f := Tm.names) (g := Tm.nodes) ih
 by_cases hk : t.k = 1
 · simp only [if_pos hk,List.length_cons,List.length_nil]; omega
 · simp only [if_neg hk,List.length_nil]; omega
theorem sum_le {α : Type} {xs : List α} {f g : α -> Nat} (h : ∀ x ∈ xs,f x <= g x) : (xs.map f).sum <= (xs.map g).sum := by
 induction xs with
 | nil => simp
 | cons x xs ih =>
  simp only [List.map_cons,List.sum_cons]
  have h1 := h x (List.mem_cons_self ..)
  have h2 := ih fun y hy => h y (List.mem_cons_of_mem _ hy)
  omega
theorem mem_sum {α : Type} {xs : List α} {f : α -> Nat} {x : α} (h : x ∈ xs) : f x <= (xs.map f).sum := by
 induction xs with
 | nil => simp at h
 | cons y xs ih =>
  simp only [List.map_cons,List.sum_cons]
  rcases List.mem_cons.1 h with rfl | h
  · omega
  · have := ih h; omega
theorem len_sum {xs : List Tm} : xs.length <= (xs.map Tm.nodes).sum := by
 induction xs with
 | nil => simp
 | cons x xs ih =>
  simp only [List.map_cons,List.sum_cons,List.length_cons]
  have := Tm.nodes_eq x; omega
theorem small_of : ∀ t : Tm,t.nodes <= 1048577 -> Small t := Tm.ind fun t ih h => by
 have h1 := Tm.nodes_eq t
 have h2 := len_sum (xs := t.as)
 exact .mk (by omega) fun a ha => ih a ha (by have := mem_sum (f := Tm.nodes) ha; omega)
theorem aS_nodes {l : List Bnd} (hl : ∀ b ∈ l,b.2.nodes = 1) : ∀ t,(aS l t).nodes <= t.nodes := Tm.ind fun t ih => by
 rw [aS_eq]
 have h1 := Tm.nodes_eq t
 split
 · rename_i u hu
   split at hu
   · obtain ⟨b,h1,rfl⟩ := bnd_mem hu; rw [hl b h1]; omega
   · simp at hu
 · rw [Tm.nodes_eq]
   simp only [Tm.as_mk,List.map_map]
   have := sum_le (xs := t.as) (f := Tm.nodes ∘ aS l) (g := Tm.nodes) ih
   omega
theorem rW1_nodes (k n : Int) (s : ByteArray) (us : List Tm) : (rW1 k n s us).nodes <= 1 + (us.map Tm.nodes).sum := by
 unfold rW1
 split
 · split
   · simp only [Tm.nodes,Tm.nodesL]; omega
   · rw [Tm.nodes_eq,Tm.as_mk]; omega
 · rw [Tm.nodes_eq,Tm.as_mk]; omega
theorem rW_nodes : ∀ t,(rW t).nodes <= t.nodes := Tm.ind fun t ih => by
 have h1 := Tm.nodes_eq t
 have h2 := sum_le (xs := t.as) (f := Tm.nodes ∘ rW) (g := Tm.nodes) ih
 have h3 := rW1_nodes t.k t.n t.s (t.as.map rW)
 rw [List.map_map] at h3
 rw [rW_eq]
 omega
theorem isW_names {t : Tm} (h : isW t = true) : t.names = [] := by
 simp only [isW,Bool.and_eq_true,decide_eq_true_eq] at h
 rw [Tm.names_eq,if_neg (by omega),List.length_eq_zero_iff.1 h.2.2.2.2]
 rfl
theorem rW1_names (k n : Int) (s : ByteArray) (us : List Tm) : (rW1 k n s us).names = (if k = 1 then [s] else []) ++ us.flatMap Tm.names := by
 unfold rW1
 split
 · rename_i x y
   split
   · rename_i h
     have e1 := isW_names h.2.2.2.1
     have e2 := isW_names h.2.2.2.2
     obtain ⟨rfl,_⟩ := h
     show ([] : List ByteArray) = ([] : List ByteArray) ++ [x,y].flatMap Tm.names
     simp [e1,e2]
   · rw [Tm.names_eq]; rfl
 · rw [Tm.names_eq]; rfl
theorem flat_congr {xs : List Tm} {f g : Tm -> List ByteArray} (h : ∀ x ∈ xs,f x = g x) : xs.flatMap f = xs.flatMap g := by
 induction xs with
 | nil => rfl
 | cons x xs ih => rw [List.flatMap_cons,List.flatMap_cons,h x (List.mem_cons_self ..),ih fun y hy => h y (List.mem_cons_of_mem _ hy)]
theorem rW_names : ∀ t,(rW t).names = t.names := Tm.ind fun t ih => by
 have e : (t.as.map rW).flatMap Tm.names = t.as.flatMap Tm.names := by
  rw [List.flatMap_map]
  exact flat_congr fun x hx => ih x hx
 rw [rW_eq,Tm.names_eq t,<- e]
 exact rW1_names ..
def isG (t : Tm) : Bool := decide ((t.names.length : Int) = 0)
theorem isG_rW (t : Tm) : isG (rW t) = isG t := by unfold isG; rw [rW_names]
structure Gu where
 k : Int
 l : Tm
 r : Tm
def Gu.row (g : Gu) : List D := [.int g.k,.int g.l.k,.int g.l.n,.str g.l.s,.sl (g.l.as.map Tm.row),.int g.r.k,.int g.r.n,.str g.r.s,.sl (g.r.as.map Tm.row)]
noncomputable def holds (g : Gu) : Bool :=
 isG g.l && (isG g.r && (if g.k = 1 then eqb (rW g.l).row (rW g.r).row else if g.k = 2 then !eqb (rW g.l).row (rW g.r).row else if g.k = 3 then isW (rW g.l) && (isW (rW g.r) && decide ((rW g.l).n < (rW g.r).n)) else false))
def appG (l : List Bnd) (g : Gu) : Gu := ⟨g.k,aS l g.l,aS l g.r⟩
def Gu.ok (g : Gu) : Prop := g.l.nodes <= 1048577 /\ g.r.nodes <= 1048577
theorem appG_ok {l : List Bnd} (hl : ∀ b ∈ l,b.2.nodes = 1) {g : Gu} (h : g.ok) : (appG l g).ok := ⟨Nat.le_trans (aS_nodes hl _) h.1,Nat.le_trans (aS_nodes hl _) h.2⟩
theorem caseS_nodes (vars : List ByteArray) (c : Int) : ∀ b ∈ caseS vars c,b.2.nodes = 1 := fun b hb => by
 unfold caseS at hb
 simp only [List.mem_map] at hb
 obtain ⟨p,_,rfl⟩ := hb
 simp [word,Tm.nodes,Tm.nodesL]
noncomputable def holdsIn (vars : List ByteArray) (gs : List Gu) (c : Int) : Bool := gs.all fun g => holds (appG (caseS vars c) g)
noncomputable def allC (vars : List ByteArray) (gs : List Gu) : List Nat := (List.range (cnt4 vars.length).toNat).filter fun c => holdsIn vars gs (c : Int)
theorem filter_loop {F : Nat -> Rows -> R} {N : Nat} {p : Nat -> Bool} {g : Nat -> List D} {K : Rows -> R} (hs : ∀ i acc,i < N -> acc.length <= i -> F i acc = if p i then F (i + 1) (acc ++ [g i]) else F (i + 1) acc) (he : ∀ acc,F N acc = K acc) :
 F 0 [] = K (((List.range N).filter p).map g) := by
 have key : ∀ (n i : Nat),i + n = N -> F i (((List.range i).filter p).map g) = K (((List.range N).filter p).map g) := by
  intro n
  induction n with
  | zero =>
   intro i hi
   have : i = N := by omega
   subst this
   rw [he]
  | succ n ih =>
   intro i hi
   have hl : (((List.range i).filter p).map g).length <= i := by
    rw [List.length_map]
    exact Nat.le_trans (List.length_filter_le _ _) (by simp)
   rw [hs i _ (by omega) hl,<- ih (i + 1) (by omega),List.range_succ,List.filter_append]
   cases h : p i with
   | true => simp [h]
   | false => simp [h]
 simpa using key N 0 (by omega)
theorem all_loop {α : Type} {F : Nat -> R} {xs : List α} {p : α -> Bool} {A B : R} (hs : ∀ i (hi : i < xs.length),F i = bif p xs[i] then F (i + 1) else B) (he : F xs.length = A) : F 0 = bif xs.all p then A else B := by
 have key : ∀ (n i : Nat),i + n = xs.length -> F i = bif (xs.drop i).all p then A else B := by
  intro n
  induction n with
  | zero =>
   intro i hi
   have : i = xs.length := by omega
   subst this
   rw [he,List.drop_length]; rfl
  | succ n ih =>
   intro i hi
   have hlt : i < xs.length := by omega
   rw [hs i hlt,ih (i + 1) (by omega),List.drop_eq_getElem_cons hlt,List.all_cons]
   cases p xs[i] <;> rfl
 simpa using key xs.length 0 (by omega)
theorem flag_loop {α : Type} {F : Nat -> Bool -> R} {xs : List α} {p : α -> Bool} {A : Bool -> R} (hs : ∀ i (hi : i < xs.length) b,F i b = F (i + 1) (b && p xs[i])) (he : ∀ b,F xs.length b = A b) : F 0 true = A (xs.all p) := by
 have key : ∀ (n i : Nat) (b : Bool),i + n = xs.length -> F i b = A (b && (xs.drop i).all p) := by
  intro n
  induction n with
  | zero =>
   intro i b hi
   have : i = xs.length := by omega
   subst this
   rw [he,List.drop_length]; simp
  | succ n ih =>
   intro i b hi
   have hlt : i < xs.length := by omega
   rw [hs i hlt,ih (i + 1) _ (by omega),List.drop_eq_getElem_cons hlt,List.all_cons,Bool.and_assoc]
 simpa using key xs.length 0 true (by omega)
def Good (r : R) (Q : Nat × List D -> Prop) : Prop := ∃ x,r = some x /\ Q x
theorem Good.bind {r : R} {f : Nat × List D -> R} {P Q : Nat × List D -> Prop} (h : Good r P) (k : ∀ x,P x -> Good (f x) Q) : Good (r.bind f) Q := by
 obtain ⟨x,rfl,hx⟩ := h
 exact k x hx
theorem Good.ite {c : Bool} {a b : R} {Q : Nat × List D -> Prop} (h1 : c = true -> Good a Q) (h2 : c = false -> Good b Q) : Good (bif c then a else b) Q := by
 cases c
 · exact h2 rfl
 · exact h1 rfl
theorem Good.ret {x : Nat × List D} {Q : Nat × List D -> Prop} (h : Q x) : Good (some x) Q := ⟨x,rfl,h⟩
theorem Good.mono {r : R} {P Q : Nat × List D -> Prop} (h : Good r P) (k : ∀ x,P x -> Q x) : Good r Q := by
 obtain ⟨x,h1,h2⟩ := h
 exact ⟨x,h1,k x h2⟩
theorem and255 (a : Int) : 0 <= andI .i64 a 255 /\ andI .i64 a 255 <= 255 := by
 unfold andI
 have h : (BitVec.ofInt IntKind.i64.bits a &&& BitVec.ofInt IntKind.i64.bits 255).toNat <= 255 := by
  rw [BitVec.toNat_and]
  exact Nat.le_trans Nat.and_le_right (by decide)
 rw [IntWalk.i64_in _ (by omega)]
 omega
end Go.Q
namespace Go.Q
open Go
theorem cat_loop {α : Type} {F : Nat -> Rows -> R} {xs : List α} (g : α -> Rows) (a0 : Rows) {K : Rows -> R} (hs : ∀ i (hi : i < xs.length) acc,(acc ++ g xs[i]).length <= a0.length + (xs.flatMap g).length -> F i acc = F (i + 1) (acc ++ g xs[i])) (he : ∀ acc,F xs.length acc = K acc) :
 F 0 a0 = K (a0 ++ xs.flatMap g) := by
 have key : ∀ (n i : Nat),i + n = xs.length -> F i (a0 ++ (xs.take i).flatMap g) = K (a0 ++ xs.flatMap g) := by
  intro n
  induction n with
  | zero =>
   intro i hi
   have : i = xs.length := by omega
   subst this
   rw [he,List.take_length]
  | succ n ih =>
   intro i hi
   have hlt : i < xs.length := by omega
   have e : (xs.take (i + 1)).flatMap g = (xs.take i).flatMap g ++ g xs[i] := by
    rw [List.take_succ_eq_append_getElem hlt,List.flatMap_append,List.flatMap_cons,List.flatMap_nil,List.append_nil]
   have hl : ((xs.take (i + 1)).flatMap g).length <= (xs.flatMap g).length := by
    conv => rhs; rw [<- List.take_append_drop (i + 1) xs,List.flatMap_append,List.length_append]
    omega
   rw [hs i hlt _ (by rw [List.append_assoc,<- e,List.length_append]; omega),List.append_assoc,<- e]
   exact ih (i + 1) (by omega)
 simpa using key xs.length 0 (by omega)
theorem names_rows (t : Tm) : t.names.map sRow = (if t.k = 1 then [sRow t.s] else []) ++ t.as.flatMap fun a => a.names.map sRow := by
 rw [Tm.names_eq,List.map_append,List.map_flatMap]
 split <;> rfl
theorem names_sum (t : Tm) : (t.as.flatMap fun a => a.names.map sRow).length <= (t.as.map Tm.nodes).sum := by
 have := flat_len (xs := t.as) (f := Tm.names) (g := Tm.nodes) fun x _ => names_nodes x
 have e : (t.as.flatMap fun a => a.names.map sRow) = (t.as.flatMap Tm.names).map sRow := by rw [List.map_flatMap]
 rw [e,List.length_map]; exact this
end Go.Q
