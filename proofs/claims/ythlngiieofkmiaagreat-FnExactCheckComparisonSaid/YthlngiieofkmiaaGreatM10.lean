/- The functions of this seat, as that machine runs them. -/
import Derived.Test.YthlngiieofkmiaaGreatM9
set_option linter.unusedVariables false
/- Names,terms,signatures,rules: what their checks compute. -/
namespace Go.Q
open Go
theorem size_list (s : ByteArray) : s.size = s.data.toList.length := by rw [Array.length_toList]; rfl
theorem get_list {s : ByteArray} {i : Nat} (h : i < s.data.toList.length) : s.get! i = s.data.toList[i] := by
 have h' : i < s.data.size := by simpa using h
 show s.data[i]! = _
 rw [getElem!_pos s.data i h']
 simp
def lowB (b : UInt8) : Bool := (decide (97 <= b.toNat) && decide (b.toNat <= 122)) || (decide (48 <= b.toNat) && decide (b.toNat <= 57))
def nameK (lo hi : Nat) : List UInt8 -> Bool
 | [] => false
 | b :: r => decide ((b :: r).length <= 8) && ((decide (lo <= b.toNat) && decide (b.toNat <= hi)) && r.all lowB)
def isNm (s : ByteArray) : Bool := nameK 97 122 s.data.toList
def isVr (s : ByteArray) : Bool := nameK 65 90 s.data.toList
theorem nil_list (s : ByteArray) : s = ⟨#[]⟩ ↔ s.data.toList = [] := ⟨fun h => by rw [h],fun h => key_inj h⟩
theorem nameK_len {lo hi : Nat} {l : List UInt8} (h : nameK lo hi l = true) : l.length <= 8 := by
 cases l with
 | nil => simp
 | cons b r => simp only [nameK,Bool.and_eq_true,decide_eq_true_eq] at h; exact h.1
theorem nv0 (a : D) (l : List D) : nth (a :: l) 0 = a := id rfl
theorem nvS (a : D) (l : List D) (i : Nat) : nth (a :: l) (i + 1) = nth l i := id rfl
theorem dvI (n : Int) : (D.int n).I = n := id rfl
theorem dvB (b : Bool) : (D.bool b).B = b := id rfl
theorem dvS (s : ByteArray) : (D.str s).S = s := id rfl
theorem dvL (r : Rows) : (D.sl r).L = r := id rfl
namespace Tm
mutual
def depth : Tm -> Nat
 | .mk _ _ _ as => depthL as + 1
def depthL : List Tm -> Nat
 | [] => 0
 | t :: ts => max (depth t) (depthL ts)
end
theorem depth_eq (t : Tm) : t.depth = depthL t.as + 1 := by cases t; rfl
theorem depth_nodes : ∀ t : Tm,t.depth <= t.nodes := Tm.ind fun t ih => by
 have h : ∀ l : List Tm,(∀ a ∈ l,a.depth <= a.nodes) -> depthL l <= (l.map nodes).sum := fun l => by
  induction l with
  | nil => intro _; exact Nat.le_refl _
  | cons a l ih =>
   intro hl
   have h1 := hl a (List.mem_cons_self ..)
   have h2 := ih fun b hb => hl b (List.mem_cons_of_mem _ hb)
   simp only [depthL,List.map_cons,List.sum_cons]; omega
 have := h t.as ih
 rw [depth_eq,nodes_eq]; omega
def nodeN (t : Tm) : Bool :=
 if t.k = 1 then decide (t.n = 0) && (decide (t.as.length = 0) && isVr t.s) else if t.k = 3 then isW t else if t.k = 2 then decide (t.n = 0) && isNm t.s else false
mutual
def areN : Tm -> Bool
 | .mk k n s as => nodeN (.mk k n s as) && areNL as
def areNL : List Tm -> Bool
 | [] => true
 | t :: ts => areN t && areNL ts
end
theorem areN_eq (t : Tm) : t.areN = (nodeN t && areNL t.as) := by cases t; rfl
theorem areNL_all : ∀ l : List Tm,areNL l = l.all areN
 | [] => rfl
 | t :: l => by simp only [areNL,List.all_cons,areNL_all l]
def valid (t : Tm) : Bool := decide (t.nodes <= 60) && (decide (t.depth <= 16) && t.areN)
end Tm
inductive Wt : Tm -> Prop
 | mk {t : Tm} : S.i64ok t.k -> S.i64ok t.n -> t.s.size <= maxLen -> t.as.length <= maxLen -> (∀ a ∈ t.as,Wt a) -> Wt t
theorem Wt.k {t : Tm} (h : Wt t) : S.i64ok t.k := by cases h; assumption
theorem Wt.n {t : Tm} (h : Wt t) : S.i64ok t.n := by cases h; assumption
theorem Wt.s {t : Tm} (h : Wt t) : t.s.size <= maxLen := by cases h; assumption
theorem Wt.l {t : Tm} (h : Wt t) : t.as.length <= maxLen := by cases h; assumption
theorem Wt.sub {t a : Tm} (h : Wt t) (ha : a ∈ t.as) : Wt a := by cases h with | mk _ _ _ _ h => exact h a ha
theorem wt_iff {H : Tab} {e : TypeId} {lay : List CT} (hT : TmTy H e lay) : ∀ t : Tm,WL H t.row lay ↔ Wt t := Tm.ind fun t ih => by
 rw [S.wl_row hT]
 constructor
 · rintro ⟨h1,h2,h3,h4,h5⟩
   exact .mk h1 h2 h3 h4 fun a ha => (ih a ha).1 (h5 a ha)
 · intro h
   exact ⟨h.k,h.n,h.s,h.l,fun a ha => (ih a ha).2 (h.sub ha)⟩
theorem names_size : ∀ t : Tm,Wt t -> ∀ x ∈ t.names,x.size <= maxLen := Tm.ind fun t ih h x hx => by
 rw [Tm.names_eq] at hx
 rcases List.mem_append.1 hx with hx | hx
 · split at hx
   · simp at hx; rw [hx]; exact h.s
   · simp at hx
 · obtain ⟨a,ha,hx⟩ := List.mem_flatMap.1 hx
   exact ih a ha (h.sub ha) x hx
theorem srtN_iff (l : List ByteArray) : (srtN l).length = l.length ↔ l.Nodup := by
 have key : ∀ (l acc : List Ky),Asc acc -> ((srtK l acc).length = l.length + acc.length ↔ (l.Nodup /\ ∀ x ∈ l,x ∉ acc)) := by
  intro l
  induction l with
  | nil => intro acc _; simp [srtK]
  | cons x l ih =>
   intro acc ha
   have hl := srtK_len l (insK x acc)
   have hmem : x ∈ acc -> insK x acc = acc := fun hx => asc_ext (insK_asc x ha) ha fun z => by
    rw [insK_mem]; exact ⟨fun h => h.elim (fun e => e ▸ hx) id,.inr⟩
   have hlen : ∀ acc : List Ky,x ∉ acc -> (insK x acc).length = acc.length + 1 := fun acc => by
    induction acc with
    | nil => intro _; rfl
    | cons y acc iha =>
     intro hx
     have h1 : y ≠ x := fun e => hx (e ▸ List.mem_cons_self ..)
     have h2 := iha fun h => hx (List.mem_cons_of_mem _ h)
     unfold insK
     by_cases h3 : y < x
     · rw [if_pos h3]; simp only [List.length_cons,h2]
     · rw [if_neg h3,if_neg h1]; rfl
   have ih' := ih (insK x acc) (insK_asc x ha)
   simp only [srtK,List.length_cons,List.nodup_cons,List.forall_mem_cons]
   by_cases hx : x ∈ acc
   · rw [hmem hx] at hl ⊢
     constructor
     · intro h; omega
     · intro h; exact absurd hx h.2.1
   · have h1 := hlen acc hx
     rw [show l.length + 1 + acc.length = l.length + (insK x acc).length by omega,ih']
     constructor
     · rintro ⟨h2,h3⟩
       exact ⟨⟨fun hxl => h3 x hxl ((insK_mem ..).2 (.inl rfl)),h2⟩,hx,fun z hz hza => h3 z hz ((insK_mem ..).2 (.inr hza))⟩
     · rintro ⟨⟨h2,h3⟩,h4,h5⟩
       exact ⟨h3,fun z hz hza => ((insK_mem ..).1 hza).elim (fun e => h2 (e ▸ hz)) (h5 z hz)⟩
 have h := key (l.map toK) [] (by simp [Asc])
 have hn : (l.map toK).Nodup ↔ l.Nodup := by
  constructor
  · exact fun h => (List.pairwise_map.1 h).imp fun {a b} (hab : toK a ≠ toK b) (e : a = b) => hab (congrArg toK e)
  · exact fun h => List.pairwise_map.2 (h.imp fun {a b} hab e => hab (key_inj e))
 unfold srtN
 rw [List.length_map]
 rw [<- hn]
 simpa using h
def dis (l : List ByteArray) : Bool := decide l.Nodup
def hasS (r : List ByteArray) (s : ByteArray) : Bool := r.any fun y => decide (y = s)
theorem hasS_iff {r : List ByteArray} {s : ByteArray} : hasS r s = true ↔ s ∈ r := by
 simp only [hasS,List.any_eq_true,decide_eq_true_eq]
 exact ⟨fun ⟨y,h,e⟩ => e ▸ h,fun h => ⟨s,h,rfl⟩⟩
def wo (l r : List ByteArray) : List ByteArray := l.filter fun s => !hasS r s
abbrev wordS : ByteArray := ⟨#[119,111,114,100]⟩
abbrev e0 : ByteArray := ⟨#[]⟩
structure OpM where
 n : ByteArray
 a : List ByteArray
 r : ByteArray
def OpM.row (o : OpM) : List D := [.str o.n,.sl (o.a.map sRow),.str o.r]
def OpM.ok (o : OpM) : Prop := o.a.length <= 1048576
structure SigB (ops : List OpM) : Prop where
 l : ops.length <= 1048576
 a : ∀ o ∈ ops,o.ok
def foRes : Option OpM -> List D
 | some o => [.str o.n,.str o.r,.bool true,.sl (o.a.map sRow)]
 | none => [.str e0,.str e0,.bool false,.sl []]
def findO (ops : List OpM) (s : ByteArray) : Option OpM := if isB s then some ⟨s,[wordS,wordS],wordS⟩ else ops.find? fun o => decide (o.n = s)
theorem findO_ok {ops : List OpM} (h : ∀ o ∈ ops,o.ok) {s : ByteArray} {o : OpM} (hf : findO ops s = some o) : o.ok := by
 unfold findO at hf
 split at hf
 · simp only [Option.some.injEq] at hf; subst hf; show 2 <= 1048576; decide
 · exact h o (List.mem_of_find?_eq_some hf)
abbrev VS := ByteArray × ByteArray
def VS.row (v : VS) : List D := [.str v.1,.str v.2]
def lookV (vs : List VS) (s : ByteArray) : ByteArray := match vs.find? fun v => decide (v.1 = s) with | some v => v.2 | none => e0
mutual
def sortT (ops : List OpM) (vs : List VS) : Tm -> ByteArray
 | .mk k n s as => if k = 3 then wordS else if k = 1 then lookV vs s else if k = 2 then (match findO ops s with
  | none => e0
  | some o => if o.a.length = as.length then (if sortsT ops vs as o.a then o.r else e0) else e0) else e0
def sortsT (ops : List OpM) (vs : List VS) : List Tm -> List ByteArray -> Bool
 | [],_ => true
 | t :: ts,[] => true
 | t :: ts,x :: xs => (!decide (sortT ops vs t = e0) && decide (sortT ops vs t = x)) && sortsT ops vs ts xs
end
theorem sortT_eq (ops : List OpM) (vs : List VS) (t : Tm) : sortT ops vs t = if t.k = 3 then wordS else if t.k = 1 then lookV vs t.s else if t.k = 2 then (match findO ops t.s with
 | none => e0
 | some o => if o.a.length = t.as.length then (if sortsT ops vs t.as o.a then o.r else e0) else e0) else e0 := by cases t; simp only [sortT,Tm.k,Tm.s,Tm.as]; rfl
mutual
def infT (ops : List OpM) : Tm -> ByteArray -> List VS -> Option (List VS)
 | .mk k n s as,so,vs => if k = 1 then (match vs.find? fun v => decide (v.1 = s) with
  | some v => if v.2 = so then some vs else none
  | none => some (vs ++ [(s,so)])) else infL ops as (if k = 2 then (match findO ops s with | some o => o.a | none => []) else []) vs
def infL (ops : List OpM) : List Tm -> List ByteArray -> List VS -> Option (List VS)
 | [],_,vs => some vs
 | t :: ts,[],vs => match infT ops t e0 vs with | some vs' => infL ops ts [] vs' | none => none
 | t :: ts,x :: xs,vs => match infT ops t x vs with | some vs' => infL ops ts xs vs' | none => none
end
theorem infT_eq (ops : List OpM) (t : Tm) (so : ByteArray) (vs : List VS) : infT ops t so vs = if t.k = 1 then (match vs.find? fun v => decide (v.1 = t.s) with
 | some v => if v.2 = so then some vs else none
 | none => some (vs ++ [(t.s,so)])) else infL ops t.as (if t.k = 2 then (match findO ops t.s with | some o => o.a | none => []) else []) vs := by cases t; simp only [infT,Tm.k,Tm.s,Tm.as]; rfl
def infR (ops : List OpM) (t : Tm) (so : ByteArray) (vs : List VS) : List D := match infT ops t so vs with
 | some v => [.bool true,.sl (v.map VS.row)]
 | none => [.bool false,.sl (if t.k = 1 then vs.map VS.row else [])]
def infVR : Option (List VS) -> List D
 | some v => [.bool true,.sl (v.map VS.row)]
 | none => [.bool false,.sl []]
theorem infL_len (ops : List OpM) : ∀ (l : List Tm),(∀ t ∈ l,∀ x vs vs',infT ops t x vs = some vs' -> vs'.length <= vs.length + t.nodes) -> ∀ xs vs vs',infL ops l xs vs = some vs' -> vs'.length <= vs.length + (l.map Tm.nodes).sum
 | [],_,xs,vs,vs',h => by simp only [infL,Option.some.injEq] at h; subst h; simp
 | t :: l,ih,xs,vs,vs',h => by
  have step : ∀ x ys,(match infT ops t x vs with | some vs' => infL ops l ys vs' | none => none) = some vs' -> vs'.length <= vs.length + ((t :: l).map Tm.nodes).sum := fun x ys h => by
   cases hq : infT ops t x vs with
   | none => rw [hq] at h; simp at h
   | some v =>
    rw [hq] at h
    have h1 := ih t (List.mem_cons_self ..) x vs v hq
    have h2 := infL_len ops l (fun a ha => ih a (List.mem_cons_of_mem _ ha)) ys v vs' h
    simp only [List.map_cons,List.sum_cons]; omega
  cases xs with
  | nil => exact step _ _ (by simpa only [infL] using h)
  | cons x ys => exact step _ _ (by simpa only [infL] using h)
theorem infT_len (ops : List OpM) : ∀ t : Tm,∀ x vs vs',infT ops t x vs = some vs' -> vs'.length <= vs.length + t.nodes := Tm.ind fun t ih x vs vs' h => by
 rw [infT_eq] at h
 split at h
 · split at h
   · split at h
     · simp only [Option.some.injEq] at h; subst h; omega
     · simp at h
   · simp only [Option.some.injEq] at h; subst h
     rw [Tm.nodes_eq]; simp
 · have := infL_len ops t.as ih _ _ _ h
   rw [Tm.nodes_eq]; omega
def infV (ops : List OpM) (t : Tm) (so : ByteArray) : Option (List VS) := match infT ops t so [] with
 | some vs => if so = e0 then none else if sortT ops vs t = so then some vs else none
 | none => none
def sigOK (so : List ByteArray) (ops : List OpM) : Bool :=
 decide (so.length <= 4) && (dis so && (decide (ops.length <= 16) && ((so.all fun x => isNm x && !decide (x = wordS)) && ((ops.all fun o => isNm o.n && (!isB o.n && (decide (o.a.length <= 3) && (o.a.all (fun x => decide (x = wordS) || hasS so x) && (decide (o.r = wordS) || hasS so o.r))))) && dis (ops.map (·.n))))))
structure RuM where
 n : ByteArray
 l : Tm
 r : Tm
 g : List Gu
def RuM.row (r : RuM) : List D := [.str r.n,.int r.l.k,.int r.l.n,.str r.l.s,.sl (r.l.as.map Tm.row),.int r.r.k,.int r.r.n,.str r.r.s,.sl (r.r.as.map Tm.row),.sl (r.g.map Gu.row)]
def RuM.ok (r : RuM) : Prop := r.l.nodes <= 1048577 /\ r.r.nodes <= 1048577 /\ r.g.length <= 1048576 /\ ∀ g ∈ r.g,g.ok
mutual
def lackB : Tm -> Bool
 | .mk k n s as => !(decide (k = 2) && isB s) && lackBL as
def lackBL : List Tm -> Bool
 | [] => true
 | t :: ts => lackB t && lackBL ts
end
theorem lackB_eq (t : Tm) : lackB t = (!(decide (t.k = 2) && isB t.s) && lackBL t.as) := by cases t; rfl
def within (t : Tm) (names : List ByteArray) : Bool := t.names.all fun s => hasS names s
def guOK (ops : List OpM) (vs : List VS) (g : Gu) : Bool :=
 (decide (1 <= g.k) && decide (g.k <= 3)) && (g.l.valid && (g.r.valid && (!decide (sortT ops vs g.l = e0) && (decide (sortT ops vs g.l = sortT ops vs g.r) && !(decide (g.k = 3) && !decide (sortT ops vs g.l = wordS))))))
def gusOK (ops : List OpM) (vs : List VS) (gs : List Gu) : Bool := gs.all (guOK ops vs) && decide (gs.length <= 2)
def rulOK (ops : List OpM) (r : RuM) : Bool :=
 isNm r.n && (r.l.valid && (decide (r.l.k = 2) && (lackB r.l && (r.r.valid && (match findO ops r.l.s with
  | none => false
  | some o => match infV ops r.l o.r with
   | none => false
   | some vs => decide (sortT ops vs r.r = o.r) && (within r.r r.l.names && gusOK ops vs r.g))))))
structure StM where
 o : ByteArray
 a : Int
def StM.row (s : StM) : List D := [.str s.o,.int s.a]
structure DfM where
 so : List ByteArray
 op : List OpM
 ru : List RuM
 st : List StM
structure DfM.ok (d : DfM) : Prop where
 so : d.so.length <= 1048576
 op : d.op.length <= 1048576
 opa : ∀ o ∈ d.op,o.ok
 ru : d.ru.length <= 1048576
 rua : ∀ r ∈ d.ru,r.ok
 st : d.st.length <= 1048576
def stOK (ops : List OpM) (s : StM) : Bool := match findO ops s.o with
 | none => false
 | some o => !isB s.o && (decide (0 <= s.a) && decide (s.a < o.a.length))
def strOK (ops : List OpM) : List StM -> List StM -> Bool
 | _,[] => true
 | pre,x :: r => stOK ops x && (!(pre.any fun y => decide (y.o = x.o) && decide (y.a = x.a)) && strOK ops (pre ++ [x]) r)
def DfM.valid (d : DfM) : Bool := sigOK d.so d.op && (decide (d.ru.length <= 16) && (decide (d.st.length <= 8) && (d.ru.all (rulOK d.op) && (strOK d.op [] d.st && dis (d.ru.map (·.n))))))
end Go.Q
