/- The functions of this seat, as that machine runs them. -/
import Derived.Test.YthlngiieofkmiaaGreatM14
set_option linter.unusedVariables false
set_option linter.unusedSimpArgs false
/- Good terms stay good along a step. -/
namespace Go.Q
open Go
theorem cmp_lt {s : ByteArray} {x y : Tm} (hx : isW x = true) (hy : isW y = true) : 0 <= cmp s x.n y.n /\ cmp s x.n y.n < 4 := by
 simp only [isW,Bool.and_eq_true,decide_eq_true_eq] at hx hy
 obtain ⟨_,a1,a2,_⟩ := hx
 obtain ⟨_,b1,b2,_⟩ := hy
 unfold cmp
 split
 · exact ⟨Int.tmod_nonneg 4 (by omega),Int.tmod_lt_of_pos _ (by decide)⟩
 · split
   · exact ⟨Int.tmod_nonneg 4 (by omega),Int.tmod_lt_of_pos _ (by decide)⟩
   · exact ⟨Int.tmod_nonneg 4 (Int.mul_nonneg a1 b1),Int.tmod_lt_of_pos _ (by decide)⟩
theorem Tm.n_mk (k n : Int) (s : ByteArray) (as : List Tm) : (Tm.mk k n s as).n = n := rfl
theorem areN_mk {t : Tm} (h : t.areN = true) {as : List Tm} (hl : as.length = t.as.length) (ha : ∀ a ∈ as,a.areN = true) : (Tm.mk t.k t.n t.s as).areN = true := by
 rw [Tm.areN_eq,Bool.and_eq_true] at h ⊢
 refine ⟨?_,by rw [Tm.areNL_all,List.all_eq_true]; exact ha⟩
 have h := h.1
 unfold Tm.nodeN isW at h ⊢
 simp only [Tm.k_mk,Tm.n_mk,Tm.s_mk,Tm.as_mk,hl]
 exact h
theorem areN_aS {l : List Bnd} (hl : ∀ b ∈ l,b.2.areN = true) : ∀ t,t.areN = true -> (aS l t).areN = true := Tm.ind fun t ih h => by
 rw [aS_eq]
 split
 · rename_i u hu
   split at hu
   · obtain ⟨b,h1,rfl⟩ := bnd_mem hu; exact hl b h1
   · simp at hu
 · exact areN_mk h (by simp) fun a ha => by
    obtain ⟨x,hx,rfl⟩ := List.mem_map.1 ha
    exact ih x hx (areN_sub h hx)
theorem areN_rW : ∀ t,t.areN = true -> (rW t).areN = true := Tm.ind fun t ih h => by
 have plain : (Tm.mk t.k t.n t.s (t.as.map rW)).areN = true := areN_mk h (by simp) fun a ha => by
  obtain ⟨x,hx,rfl⟩ := List.mem_map.1 ha
  exact ih x hx (areN_sub h hx)
 rw [rW_eq]
 unfold rW1
 split
 · rename_i x y hxy
   split
   · rename_i hc
     obtain ⟨c1,c2⟩ := cmp_lt (s := t.s) hc.2.2.2.1 hc.2.2.2.2
     rw [Tm.areN_eq]
     unfold Tm.nodeN isW
     simp only [Tm.k_mk,Tm.n_mk,Tm.s_mk,Tm.as_mk]
     simp [Tm.areNL,c1,c2]
   · exact plain
 · exact plain
theorem wt_mk {t : Tm} (h : Wt t) {as : List Tm} (hl : as.length = t.as.length) (ha : ∀ a ∈ as,Wt a) : Wt (.mk t.k t.n t.s as) := .mk h.k h.n h.s (by rw [Tm.as_mk,hl]; exact h.l) ha
theorem wt_aS {l : List Bnd} (hl : ∀ b ∈ l,Wt b.2) : ∀ t,Wt t -> Wt (aS l t) := Tm.ind fun t ih h => by
 rw [aS_eq]
 split
 · rename_i u hu
   split at hu
   · obtain ⟨b,h1,rfl⟩ := bnd_mem hu; exact hl b h1
   · simp at hu
 · exact wt_mk h (by simp) fun a ha => by
    obtain ⟨x,hx,rfl⟩ := List.mem_map.1 ha
    exact ih x hx (h.sub hx)
theorem wt_rW : ∀ t,Wt t -> Wt (rW t) := Tm.ind fun t ih h => by
 have plain : Wt (Tm.mk t.k t.n t.s (t.as.map rW)) := wt_mk h (by simp) fun a ha => by
  obtain ⟨x,hx,rfl⟩ := List.mem_map.1 ha
  exact ih x hx (h.sub hx)
 rw [rW_eq]
 unfold rW1
 split
 · rename_i x y hxy
   split
   · rename_i hc
     exact .mk (show S.i64ok 3 from S.i64ok_of (by decide) (by decide)) (S.cmp_ok hc.2.2.2.1 hc.2.2.2.2) (show (⟨#[]⟩ : ByteArray).size <= maxLen by decide) (Nat.zero_le _) (by intro a ha; rw [Tm.as_mk] at ha; simp at ha)
   · exact plain
 · exact plain
theorem sum_mul {xs : List Tm} {f g : Tm -> Nat} {m : Nat} (h : ∀ x ∈ xs,f x <= m * g x) : (xs.map f).sum <= m * (xs.map g).sum := by
 induction xs with
 | nil => simp
 | cons x xs ih =>
  have h1 := h x (List.mem_cons_self ..)
  have h2 := ih fun y hy => h y (List.mem_cons_of_mem _ hy)
  simp only [List.map_cons,List.sum_cons,Nat.mul_add]; omega
theorem aS_nodesM {l : List Bnd} {m : Nat} (hm : 1 <= m) (hl : ∀ b ∈ l,b.2.nodes <= m) : ∀ t,(aS l t).nodes <= m * t.nodes := Tm.ind fun t ih => by
 rw [aS_eq]
 have h1 := Tm.nodes_eq t
 split
 · rename_i u hu
   split at hu
   · obtain ⟨b,hb,rfl⟩ := bnd_mem hu
     have := hl b hb
     rw [h1,Nat.mul_add]; omega
   · simp at hu
 · rw [Tm.nodes_eq]
   simp only [Tm.as_mk,List.map_map]
   have := sum_mul (xs := t.as) (f := Tm.nodes ∘ aS l) (g := Tm.nodes) ih
   rw [h1,Nat.mul_add]; omega
structure Gt (ops : List OpM) (t : Tm) : Prop where
 w : Wt t
 n : t.areN = true
 s : sortT ops [] t ≠ e0
theorem Gt.arr {ops : List OpM} {t : Tm} (h : Gt ops t) (hk : t.k = 2) : ∃ o,findO ops t.s = some o /\ o.a.length = t.as.length /\ sortsT ops [] t.as o.a = true /\ sortT ops [] t = o.r := sort_op hk h.s
theorem Gt.sub {ops : List OpM} {t a : Tm} (h : Gt ops t) (ha : a ∈ t.as) : Gt ops a := by
 refine ⟨h.w.sub ha,areN_sub h.n ha,?_⟩
 rcases nodeN_cases h.n with ⟨_,q⟩ | ⟨_,_,q⟩ | h2
 · rw [q] at ha; simp at ha
 · rw [q] at ha; simp at ha
 · obtain ⟨o,_,hl,hs,_⟩ := h.arr h2
   exact sortsT_ne ops [] t.as o.a (by omega) hs a ha
structure RuG (ops : List OpM) (r : RuM) : Prop where
 b : RuB r
 lv : r.l.valid = true
 lk : r.l.k = 2
 rv : r.r.valid = true
 gl : ∀ g ∈ r.g,g.l.valid = true /\ g.r.valid = true
 inf : ∃ o vs,findO ops r.l.s = some o /\ infV ops r.l o.r = some vs /\ sortT ops vs r.r = o.r
theorem ruG_of {ops : List OpM} {r : RuM} (hb : RuB r) (h : rulOK ops r = true) : RuG ops r := by
 unfold rulOK at h
 simp only [Bool.and_eq_true,decide_eq_true_eq] at h
 obtain ⟨_,h1,h2,_,h3,h4⟩ := h
 cases hf : findO ops r.l.s with
 | none => rw [hf] at h4; simp at h4
 | some o =>
  rw [hf] at h4
  simp only at h4
  cases hi : infV ops r.l o.r with
  | none => rw [hi] at h4; simp at h4
  | some vs =>
   rw [hi] at h4
   simp only [Bool.and_eq_true,decide_eq_true_eq,gusOK,List.all_eq_true] at h4
   refine ⟨hb,h1,h2,h3,fun g hg => ?_,o,vs,hf,hi,h4.1⟩
   have := h4.2.2.1 g hg
   simp only [guOK,Bool.and_eq_true] at this
   exact ⟨this.2.1,this.2.2.1⟩
theorem valid_nodes {t : Tm} (h : t.valid = true) : t.nodes <= 60 := by
 simp only [Tm.valid,Bool.and_eq_true,decide_eq_true_eq] at h; exact h.1
theorem agree_nil (ops : List OpM) : Agree ops [] [] := fun s => by simp [vfind,bnd]
theorem fire_good {ops : List OpM} {r : RuM} (hr : RuG ops r) {u w : Tm} (hu : Gt ops u) (hn : u.nodes <= 60) (h : fireR r u = some w) : Gt ops w /\ sortT ops [] w = sortT ops [] u /\ w.nodes <= 3600 := by
 unfold fireR at h
 cases hm : mT r.l u [] with
 | none => rw [hm] at h; simp at h
 | some l =>
  rw [hm] at h
  simp only at h
  split at h
  · simp only [Option.some.injEq] at h
    subst h
    obtain ⟨o,vs,hf,hi,hs⟩ := hr.inf
    have hk : u.k = 2 /\ u.s = r.l.s := by
     rcases mT_cases hm with ⟨q,_⟩ | ⟨q,_⟩ | ⟨_,q1,_,q2,_⟩
     · have := hr.lk; omega
     · have := hr.lk; omega
     · exact ⟨by rw [<- q1]; exact hr.lk,q2.symm⟩
    obtain ⟨o',hf',_,_,he⟩ := hu.arr hk.1
    rw [hk.2,hf] at hf'
    simp only [Option.some.injEq] at hf'
    subst hf'
    have hne : o.r ≠ e0 := he ▸ hu.s
    have hA := agree_match ops r.l (valid_areN hr.lv) u o.r [] vs [] l he hne (agree_nil ops) (infV_inf hi) hm
    have hw : ∀ b ∈ l,Wt b.2 /\ (b.2.areN = true /\ b.2.nodes <= 60) := mT_all (fun t => Wt t /\ (t.areN = true /\ t.nodes <= 60)) (fun t a h ha => ⟨h.1.sub ha,areN_sub h.2.1 ha,by
     have := mem_sum (f := Tm.nodes) ha
     have := Tm.nodes_eq t
     have := h.2.2
     omega⟩) r.l u [] l ⟨hu.w,hu.n,hn⟩ (by simp) hm
    have hn1 := areN_aS (fun b hb => (hw b hb).2.1) r.r (valid_areN hr.rv)
    have hs1 : sortT ops [] (aS l r.r) = sortT ops vs r.r := sort_aS hA r.r (valid_areN hr.rv) (hs ▸ hne)
    have hs2 : sortT ops [] (rW (aS l r.r)) = o.r := by rw [sort_rW ops [] _ hn1 (by rw [hs1,hs]; exact hne),hs1,hs]
    have hm1 := aS_nodesM (m := 60) (by decide) (fun b hb => (hw b hb).2.2) r.r
    have hm2 := rW_nodes (aS l r.r)
    have hm3 := valid_nodes hr.rv
    refine ⟨⟨wt_rW _ (wt_aS (fun b hb => (hw b hb).1) r.r hr.b.wr),areN_rW _ hn1,hs2 ▸ hne⟩,by rw [hs2,he],by omega⟩
  · simp at h
def atT : Tm -> List Int -> Option Tm
 | t,[] => some t
 | t,i :: p => if h : i.toNat < t.as.length then (if 0 <= i then atT t.as[i.toNat] p else none) else none
def putT : Tm -> List Int -> Tm -> Tm
 | _,[],w => w
 | t,i :: p,w => if h : i.toNat < t.as.length then .mk t.k t.n t.s (t.as.set i.toNat (putT t.as[i.toNat] p w)) else t
theorem atT_cons {t u : Tm} {i : Int} {p : List Int} (h : atT t (i :: p) = some u) : ∃ hi : i.toNat < t.as.length,0 <= i /\ atT t.as[i.toNat] p = some u := by
 simp only [atT] at h
 split at h
 · rename_i hi
   split at h
   · exact ⟨hi,by assumption,h⟩
   · simp at h
 · simp at h
theorem sortsT_set {ops : List OpM} {vs : List VS} : ∀ (l : List Tm) (xs : List ByteArray) (i : Nat) (hi : i < l.length) (x : Tm),sortT ops vs x = sortT ops vs l[i] -> sortsT ops vs (l.set i x) xs = sortsT ops vs l xs
 | [],_,i,hi,_,_ => by simp at hi
 | a :: l,xs,0,hi,x,h => by
  cases xs with
  | nil => rfl
  | cons y xs =>
   simp only [List.getElem_cons_zero] at h
   simp only [List.set_cons_zero,sortsT,h]
 | a :: l,xs,i + 1,hi,x,h => by
  cases xs with
  | nil => rfl
  | cons y xs =>
   simp only [List.getElem_cons_succ] at h
   simp only [List.set_cons_succ,sortsT]
   rw [sortsT_set l xs i (by simpa using hi) x h]
theorem put_good {ops : List OpM} : ∀ (p : List Int) (t u w : Tm),Gt ops t -> atT t p = some u -> Gt ops w -> sortT ops [] w = sortT ops [] u -> Gt ops (putT t p w) /\ sortT ops [] (putT t p w) = sortT ops [] t
 | [],t,u,w,ht,h,hw,hs => by
  simp only [atT,Option.some.injEq] at h
  subst h
  exact ⟨hw,hs⟩
 | i :: p,t,u,w,ht,h,hw,hs => by
  obtain ⟨hi,h0,h1⟩ := atT_cons h
  have hm := List.getElem_mem hi
  obtain ⟨g1,g2⟩ := put_good p t.as[i.toNat] u w (ht.sub hm) h1 hw hs
  simp only [putT,dif_pos hi]
  have h2 : t.k = 2 := by
   rcases nodeN_cases ht.n with ⟨_,q⟩ | ⟨_,_,q⟩ | h2
   · rw [q] at hi; simp at hi
   · rw [q] at hi; simp at hi
   · exact h2
  obtain ⟨o,hf,hl,hss,e⟩ := ht.arr h2
  have es : sortT ops [] (.mk t.k t.n t.s (t.as.set i.toNat (putT t.as[i.toNat] p w))) = o.r := by
   refine sort_of_op (t := .mk t.k t.n t.s _) h2 hf (by rw [Tm.as_mk,List.length_set]; exact hl) ?_
   rw [Tm.as_mk,sortsT_set t.as o.a i.toNat hi _ g2]; exact hss
  refine ⟨⟨wt_mk ht.w (by simp) fun a ha => ?_,areN_mk ht.n (by simp) fun a ha => ?_,by rw [es,<- e]; exact ht.s⟩,by rw [es,e]⟩
  · rcases List.mem_or_eq_of_mem_set ha with q | q
    · exact ht.w.sub q
    · exact q ▸ g1.w
  · rcases List.mem_or_eq_of_mem_set ha with q | q
    · exact areN_sub ht.n q
    · exact q ▸ g1.n
theorem atT_nodes : ∀ (p : List Int) (t u : Tm),atT t p = some u -> u.nodes + p.length <= t.nodes
 | [],t,u,h => by simp only [atT,Option.some.injEq] at h; subst h; simp
 | i :: p,t,u,h => by
  obtain ⟨hi,h0,h1⟩ := atT_cons h
  have h2 := atT_nodes p _ u h1
  have := mem_sum (f := Tm.nodes) (List.getElem_mem hi)
  have := Tm.nodes_eq t
  simp only [List.length_cons]; omega
theorem sum_set : ∀ (l : List Tm) (i : Nat) (hi : i < l.length) (x : Tm),((l.set i x).map Tm.nodes).sum <= (l.map Tm.nodes).sum + x.nodes
 | [],i,hi,_ => by simp at hi
 | a :: l,0,hi,x => by simp only [List.set_cons_zero,List.map_cons,List.sum_cons]; omega
 | a :: l,i + 1,hi,x => by
  have := sum_set l i (by simpa using hi) x
  simp only [List.set_cons_succ,List.map_cons,List.sum_cons]; omega
theorem put_nodes (w : Tm) : ∀ (p : List Int) (t : Tm),(putT t p w).nodes <= t.nodes * (p.length + 1) + w.nodes
 | [],t => by simp [putT]
 | i :: p,t => by
  simp only [putT]
  split
  · rename_i hi
    have h1 := put_nodes w p t.as[i.toNat]
    have h2 := sum_set t.as i.toNat hi (putT t.as[i.toNat] p w)
    have h3 := mem_sum (f := Tm.nodes) (List.getElem_mem hi)
    have h4 := Tm.nodes_eq t
    rw [Tm.nodes_eq,Tm.as_mk]
    have h5 : t.as[i.toNat].nodes * (p.length + 1) <= t.nodes * (p.length + 1) := Nat.mul_le_mul_right _ (by omega)
    have h6 : t.nodes * ((i :: p).length + 1) = t.nodes * (p.length + 1) + t.nodes := by rw [List.length_cons,Nat.mul_add _ _ 1,Nat.mul_one]
    omega
  · have : t.nodes <= t.nodes * ((i :: p).length + 1) := Nat.le_mul_of_pos_right _ (by simp)
    omega
theorem atT_sub {P : Tm -> Prop} (hP : ∀ t a,P t -> a ∈ t.as -> P a) : ∀ (p : List Int) (t u : Tm),P t -> atT t p = some u -> P u
 | [],t,u,ht,h => by simp only [atT,Option.some.injEq] at h; subst h; exact ht
 | i :: p,t,u,ht,h => by
  obtain ⟨hi,h0,h1⟩ := atT_cons h
  exact atT_sub hP p _ u (hP t _ ht (List.getElem_mem hi)) h1
def strA (st : List StM) (s : ByteArray) : List Int := (st.filter fun x => decide (x.o = s)).map (·.a)
def stL (st : List StM) (t : Tm) : List Int := if t.k = 2 then strA st t.s else []
noncomputable def rootF (ru : List RuM) (u : Tm) : Option Nat := ru.findIdx? fun r => (fireR r u).isSome
def pickF (l : List Int) (rs : List (Option (Nat × List Int))) : Option (Nat × List Int) := l.findSome? fun i => if 0 <= i then (match rs[i.toNat]? with | some (some x) => some (x.1,i :: x.2) | _ => none) else none
mutual
noncomputable def nx (d : DfM) : Tm -> Option (Nat × List Int)
 | .mk k n s as => match pickF (if k = 2 then strA d.st s else []) (nxs d as) with
  | some x => some x
  | none => (rootF d.ru (.mk k n s as)).map fun i => (i,[])
noncomputable def nxs (d : DfM) : List Tm -> List (Option (Nat × List Int))
 | [] => []
 | t :: ts => nx d t :: nxs d ts
end
theorem nxs_map (d : DfM) : ∀ ts,nxs d ts = ts.map (nx d)
 | [] => by simp only [nxs,List.map_nil]
 | t :: ts => by simp only [nxs,List.map_cons,nxs_map d ts]
theorem nx_eq (d : DfM) (t : Tm) : nx d t = match pickF (stL d.st t) (t.as.map (nx d)) with
 | some x => some x
 | none => (rootF d.ru t).map fun i => (i,[]) := by
 cases t
 simp only [nx,nxs_map,stL,Tm.k,Tm.s,Tm.as]; rfl
theorem root_spec {ru : List RuM} {u : Tm} {i : Nat} (h : rootF ru u = some i) : ∃ r w,ru[i]? = some r /\ fireR r u = some w := by
 unfold rootF at h
 rw [List.findIdx?_eq_some_iff_getElem] at h
 obtain ⟨hi,h1,_⟩ := h
 cases hf : fireR ru[i] u with
 | none => rw [hf] at h1; simp at h1
 | some w => exact ⟨ru[i],w,by simp [hi],hf⟩
theorem nx_spec (d : DfM) : ∀ t i p,nx d t = some (i,p) -> ∃ u r w,atT t p = some u /\ d.ru[i]? = some r /\ fireR r u = some w := Tm.ind fun t ih i p h => by
 rw [nx_eq] at h
 cases hp : pickF (stL d.st t) (t.as.map (nx d)) with
 | some x =>
  rw [hp] at h
  simp only [Option.some.injEq] at h
  subst h
  unfold pickF at hp
  obtain ⟨j,hj,h1⟩ := List.exists_of_findSome?_eq_some hp
  split at h1
  · rename_i h0
    split at h1
    · rename_i y hy
      simp only [Option.some.injEq,Prod.mk.injEq] at h1
      obtain ⟨e1,e2⟩ := h1
      subst e1; subst e2
      rw [List.getElem?_map] at hy
      cases hg : t.as[j.toNat]? with
      | none => rw [hg] at hy; simp at hy
      | some a =>
       rw [hg] at hy
       simp only [Option.map_some,Option.some.injEq] at hy
       obtain ⟨hlt,he⟩ := List.getElem?_eq_some_iff.1 hg
       obtain ⟨u,r,w,q1,q2,q3⟩ := ih a (he ▸ List.getElem_mem hlt) y.1 y.2 hy
       refine ⟨u,r,w,?_,q2,q3⟩
       simp only [atT,dif_pos hlt,if_pos h0,he]
       exact q1
    · simp at h1
  · simp at h1
 | none =>
  rw [hp] at h
  simp only at h
  cases hr : rootF d.ru t with
  | none => rw [hr] at h; simp at h
  | some j =>
   rw [hr] at h
   simp only [Option.map_some,Option.some.injEq,Prod.mk.injEq] at h
   obtain ⟨e1,e2⟩ := h
   subst e1; subst e2
   obtain ⟨r,w,q1,q2⟩ := root_spec hr
   exact ⟨t,r,w,rfl,q1,q2⟩
noncomputable def stepT (d : DfM) (t : Tm) (i : Nat) (p : List Int) : Tm := match atT t p,d.ru[i]? with
 | some u,some r => (match fireR r u with | some w => putT t p w | none => t)
 | _,_ => t
structure RunR where
 o : Int
 t : Tm
 st : List Tm
 rd : List (Nat × List Int)
noncomputable def runF (d : DfM) : Nat -> Tm -> RunR
 | 0,t => match nx d t with
  | none => ⟨1,t,[],[]⟩
  | some _ => ⟨2,t,[],[]⟩
 | n + 1,t => match nx d t with
  | none => ⟨1,t,[],[]⟩
  | some (i,p) => if (stepT d t i p).valid = true then ⟨(runF d n (stepT d t i p)).o,(runF d n (stepT d t i p)).t,stepT d t i p :: (runF d n (stepT d t i p)).st,(i,p) :: (runF d n (stepT d t i p)).rd⟩ else ⟨3,t,[],[]⟩
structure DfG (d : DfM) : Prop where
 b : DfB d
 v : d.valid = true
theorem DfG.ru {d : DfM} (h : DfG d) {r : RuM} (hr : r ∈ d.ru) : RuG d.op r := by
 have := h.v
 simp only [DfM.valid,Bool.and_eq_true,List.all_eq_true] at this
 exact ruG_of (h.b.rua r hr) (this.2.2.2.1 r hr)
theorem strOK_all (ops : List OpM) : ∀ (l pre : List StM),strOK ops pre l = true -> ∀ x ∈ l,stOK ops x = true
 | [],_,_,x,hx => by simp at hx
 | y :: l,pre,h,x,hx => by
  simp only [strOK,Bool.and_eq_true] at h
  rcases List.mem_cons.1 hx with e | hx
  · exact e ▸ h.1
  · exact strOK_all ops l _ h.2.2 x hx
theorem DfG.st {d : DfM} (h : DfG d) {x : StM} (hx : x ∈ d.st) : stOK d.op x = true := by
 have := h.v
 simp only [DfM.valid,Bool.and_eq_true] at this
 exact strOK_all d.op d.st [] this.2.2.2.2.1 x hx
theorem stL_lt {d : DfM} (h : DfG d) {t : Tm} (ht : Gt d.op t) {i : Int} (hi : i ∈ stL d.st t) : 0 <= i /\ i.toNat < t.as.length := by
 unfold stL at hi
 split at hi
 · rename_i hk
   obtain ⟨x,hx,rfl⟩ := List.mem_map.1 hi
   obtain ⟨h1,h2⟩ := List.mem_filter.1 hx
   have h3 := h.st h1
   simp only [decide_eq_true_eq] at h2
   obtain ⟨o,hf,hl,_⟩ := ht.arr hk
   unfold stOK at h3
   rw [h2,hf] at h3
   simp only [Bool.and_eq_true,decide_eq_true_eq] at h3
   omega
 · simp at hi
theorem step_good {d : DfM} (h : DfG d) {t : Tm} (ht : Gt d.op t) (hn : t.nodes <= 60) {i : Nat} {p : List Int} (hx : nx d t = some (i,p)) :
 ∃ u r w,atT t p = some u /\ d.ru[i]? = some r /\ fireR r u = some w /\ stepT d t i p = putT t p w /\ Gt d.op u /\ u.nodes <= 60 /\ Gt d.op w /\ w.nodes <= 3600 /\ Gt d.op (stepT d t i p) /\ (stepT d t i p).nodes <= 8000 /\ p.length <= 60 /\ RuG d.op r := by
 obtain ⟨u,r,w,h1,h2,h3⟩ := nx_spec d t i p hx
 obtain ⟨hi,he⟩ := List.getElem?_eq_some_iff.1 h2
 have hr : RuG d.op r := h.ru (he ▸ List.getElem_mem hi)
 have hu : Gt d.op u := atT_sub (P := Gt d.op) (fun t a h ha => h.sub ha) p t u ht h1
 have hun := atT_nodes p t u h1
 obtain ⟨g1,g2,g3⟩ := fire_good hr hu (by omega) h3
 have e : stepT d t i p = putT t p w := by unfold stepT; rw [h1,h2]; simp only [h3]
 obtain ⟨p1,_⟩ := put_good p t u w ht h1 g1 g2
 have hpn := put_nodes w p t
 have : t.nodes * (p.length + 1) <= 60 * 61 := Nat.mul_le_mul hn (by omega)
 refine ⟨u,r,w,h1,h2,h3,e,hu,by omega,g1,g3,e ▸ p1,by rw [e]; omega,by omega,hr⟩
end Go.Q
