/- The functions of this seat, as that machine runs them. -/
import Derived.Test.YthlngiieofkmiaaGreatM13
set_option linter.unusedVariables false
set_option linter.unusedSimpArgs false
/- Matching,firing,sorts along a step. -/
namespace Go.Q
open Go
theorem aS_congr {l l' : List Bnd} (h : ∀ s,bnd l s = bnd l' s) : ∀ t,aS l t = aS l' t := Tm.ind fun t ih => by
 have hm : t.as.map (aS l) = t.as.map (aS l') := List.map_congr_left fun a ha => ih a ha
 rw [aS_eq,aS_eq l',h,hm]
theorem appG_congr {l l' : List Bnd} (h : ∀ s,bnd l s = bnd l' s) (g : Gu) : appG l g = appG l' g := by
 unfold appG; rw [aS_congr h,aS_congr h]
theorem bnd_app (l l' : List Bnd) (s : ByteArray) : bnd (l ++ l') s = match bnd l s with
 | some v => some v
 | none => bnd l' s := by
 induction l with
 | nil => rfl
 | cons b l ih =>
  simp only [List.cons_append,bnd]
  by_cases h : b.1 = s
  · rw [if_pos h,if_pos h]
  · rw [if_neg h,if_neg h,ih]
mutual
noncomputable def mT : Tm -> Tm -> List Bnd -> Option (List Bnd)
 | .mk k n s as,u,l =>
  if k = 1 then (match bnd l s with
   | some v => if eqb v.row u.row = true then some l else none
   | none => some (l ++ [(s,u)]))
  else if k = u.k then (if n = u.n then (if s = u.s then (if as.length = u.as.length then mTs as u.as l else none) else none) else none) else none
noncomputable def mTs : List Tm -> List Tm -> List Bnd -> Option (List Bnd)
 | [],_,l => some l
 | _ :: _,[],_ => none
 | t :: ts,u :: us,l => match mT t u l with
  | some l' => mTs ts us l'
  | none => none
end
theorem mT_eq (t u : Tm) (l : List Bnd) : mT t u l = if t.k = 1 then (match bnd l t.s with
 | some v => if eqb v.row u.row = true then some l else none
 | none => some (l ++ [(t.s,u)]))
 else if t.k = u.k then (if t.n = u.n then (if t.s = u.s then (if t.as.length = u.as.length then mTs t.as u.as l else none) else none) else none) else none := by
 cases t; simp only [mT,Tm.k,Tm.n,Tm.s,Tm.as]; rfl
theorem mT_cases {t u : Tm} {l l' : List Bnd} (h : mT t u l = some l') :
 (t.k = 1 /\ (∃ v,bnd l t.s = some v) /\ l' = l) \/ (t.k = 1 /\ bnd l t.s = none /\ l' = l ++ [(t.s,u)]) ∨
 (t.k ≠ 1 /\ t.k = u.k /\ t.n = u.n /\ t.s = u.s /\ t.as.length = u.as.length /\ mTs t.as u.as l = some l') := by
 rw [mT_eq] at h
 by_cases h1 : t.k = 1
 · rw [if_pos h1] at h
   cases hb : bnd l t.s with
   | some v =>
    rw [hb] at h
    simp only at h
    split at h
    · simp only [Option.some.injEq] at h; exact .inl ⟨h1,⟨v,rfl⟩,h.symm⟩
    · simp at h
   | none =>
    rw [hb] at h
    simp only [Option.some.injEq] at h
    exact .inr (.inl ⟨h1,rfl,h.symm⟩)
 · rw [if_neg h1] at h
   split at h
   · split at h
     · split at h
       · split at h
         · exact .inr (.inr ⟨h1,by assumption,by assumption,by assumption,by assumption,h⟩)
         · simp at h
       · simp at h
     · simp at h
   · simp at h
theorem mTs_ind {P : Tm -> Tm -> List Bnd -> List Bnd -> Prop} {Q : List Tm -> List Tm -> List Bnd -> List Bnd -> Prop} (h0 : ∀ us l,Q [] us l l)
 (hc : ∀ t u l l1 ts us l2,P t u l l1 -> Q ts us l1 l2 -> Q (t :: ts) (u :: us) l l2) :
 ∀ (ts us : List Tm) (l l' : List Bnd),(∀ t ∈ ts,∀ u ∈ us,∀ l l',mT t u l = some l' -> P t u l l') -> mTs ts us l = some l' -> Q ts us l l'
 | [],us,l,l',_,h => by simp only [mTs,Option.some.injEq] at h; subst h; exact h0 us l
 | t :: ts,[],l,l',_,h => by simp [mTs] at h
 | t :: ts,u :: us,l,l',ih,h => by
  simp only [mTs] at h
  split at h
  · rename_i l1 h1
    exact hc _ _ _ _ _ _ _ (ih t (List.mem_cons_self ..) u (List.mem_cons_self ..) l l1 h1) (mTs_ind h0 hc ts us l1 l' (fun t ht u hu => ih t (List.mem_cons_of_mem _ ht) u (List.mem_cons_of_mem _ hu)) h)
  · simp at h
theorem mT_all (P : Tm -> Prop) (hP : ∀ t a,P t -> a ∈ t.as -> P a) : ∀ t u l l',P u -> (∀ b ∈ l,P b.2) -> mT t u l = some l' -> ∀ b ∈ l',P b.2 := Tm.ind fun t ih u l l' hu hl h => by
 rcases mT_cases h with ⟨_,_,e⟩ | ⟨_,_,e⟩ | ⟨_,_,_,_,_,h⟩
 · subst e; exact hl
 · subst e
   intro b hb
   rcases List.mem_append.1 hb with hb | hb
   · exact hl b hb
   · simp only [List.mem_singleton] at hb; subst hb; exact hu
 · have key : ∀ (ts us : List Tm) (l l' : List Bnd),(∀ a ∈ ts,a ∈ t.as) -> (∀ a ∈ us,P a) -> (∀ b ∈ l,P b.2) -> mTs ts us l = some l' -> ∀ b ∈ l',P b.2 := by
    intro ts
    induction ts with
    | nil => intro us l l' _ _ hl h; simp only [mTs,Option.some.injEq] at h; subst h; exact hl
    | cons a ts ihs =>
     intro us l l' hts hus hl h
     cases us with
     | nil => simp [mTs] at h
     | cons b us =>
      simp only [mTs] at h
      split at h
      · rename_i l1 h1
        exact ihs us l1 l' (fun x hx => hts x (List.mem_cons_of_mem _ hx)) (fun x hx => hus x (List.mem_cons_of_mem _ hx)) (ih a (hts a (List.mem_cons_self ..)) b l l1 (hus b (List.mem_cons_self ..)) hl h1) h
      · simp at h
   exact key _ _ _ _ (fun _ h => h) (fun a ha => hP u a hu ha) hl h
theorem mT_len : ∀ t u l l',mT t u l = some l' -> l'.length <= l.length + t.nodes := Tm.ind fun t ih u l l' h => by
 have hn := Tm.nodes_eq t
 rcases mT_cases h with ⟨_,_,e⟩ | ⟨_,_,e⟩ | ⟨_,_,_,_,_,h⟩
 · subst e; omega
 · subst e; simp; omega
 · have key : ∀ (ts us : List Tm) (l l' : List Bnd),(∀ a ∈ ts,a ∈ t.as) -> mTs ts us l = some l' -> l'.length <= l.length + (ts.map Tm.nodes).sum := by
    intro ts
    induction ts with
    | nil => intro us l l' _ h; simp only [mTs,Option.some.injEq] at h; subst h; simp
    | cons a ts ihs =>
     intro us l l' hts h
     cases us with
     | nil => simp [mTs] at h
     | cons b us =>
      simp only [mTs] at h
      split at h
      · rename_i l1 h1
        have q1 := ih a (hts a (List.mem_cons_self ..)) b l l1 h1
        have q2 := ihs us l1 l' (fun x hx => hts x (List.mem_cons_of_mem _ hx)) h
        simp only [List.map_cons,List.sum_cons]; omega
      · simp at h
   have := key _ _ _ _ (fun _ h => h) h
   omega
theorem mT_names : ∀ t u l l',mT t u l = some l' -> ∀ s,bnd l' s ≠ none -> bnd l s ≠ none \/ s ∈ t.names := Tm.ind fun t ih u l l' h s hs => by
 rw [Tm.names_eq]
 rcases mT_cases h with ⟨_,_,e⟩ | ⟨hk,_,e⟩ | ⟨_,_,_,_,_,h⟩
 · subst e; exact .inl hs
 · subst e
   rw [bnd_app] at hs
   cases hb : bnd l s with
   | some v => exact .inl (by simp)
   | none =>
    rw [hb] at hs
    simp only [bnd] at hs
    by_cases e : t.s = s
    · right; rw [if_pos hk,e]; simp
    · rw [if_neg e] at hs; exact absurd rfl hs
 · have key : ∀ (ts us : List Tm) (l l' : List Bnd),(∀ a ∈ ts,a ∈ t.as) -> mTs ts us l = some l' -> bnd l' s ≠ none -> bnd l s ≠ none \/ s ∈ ts.flatMap Tm.names := by
    intro ts
    induction ts with
    | nil => intro us l l' _ h hs; simp only [mTs,Option.some.injEq] at h; subst h; exact .inl hs
    | cons a ts ihs =>
     intro us l l' hts h hs
     cases us with
     | nil => simp [mTs] at h
     | cons b us =>
      simp only [mTs] at h
      split at h
      · rename_i l1 h1
        simp only [List.flatMap_cons,List.mem_append]
        rcases ihs us l1 l' (fun x hx => hts x (List.mem_cons_of_mem _ hx)) h hs with q | q
        · rcases ih a (hts a (List.mem_cons_self ..)) b l l1 h1 s q with q | q
          · exact .inl q
          · exact .inr (.inl q)
        · exact .inr (.inr q)
      · simp at h
   rcases key _ _ _ _ (fun _ h => h) h hs with q | q
   · exact .inl q
   · exact .inr (List.mem_append.2 (.inr q))
def rsB (l : List Bnd) (ns : List ByteArray) : List Bnd := ns.filterMap fun s => (bnd l s).map fun v => (s,v)
open Classical in
theorem bnd_rsB (l : List Bnd) (s : ByteArray) : ∀ ns : List ByteArray,bnd (rsB l ns) s = if s ∈ ns then bnd l s else none
 | [] => by simp [rsB,bnd]
 | x :: ns => by
  have ih := bnd_rsB l s ns
  unfold rsB at ih ⊢
  rw [List.filterMap_cons]
  cases hx : bnd l x with
  | none =>
   simp only [Option.map_none]
   rw [ih]
   by_cases h : s ∈ ns
   · rw [if_pos h,if_pos (List.mem_cons_of_mem _ h)]
   · rw [if_neg h]
     by_cases e : s = x
     · subst e; rw [if_pos (List.mem_cons_self ..),hx]
     · rw [if_neg (by simp [e,h])]
  | some v =>
   simp only [Option.map_some,bnd]
   by_cases e : x = s
   · subst e; rw [if_pos rfl,if_pos (List.mem_cons_self ..),hx]
   · rw [if_neg e,ih]
     by_cases h : s ∈ ns
     · rw [if_pos h,if_pos (List.mem_cons_of_mem _ h)]
     · rw [if_neg h,if_neg (by simp [h,Ne.symm e])]
theorem rsB_match {t u : Tm} {l : List Bnd} (h : mT t u [] = some l) (s : ByteArray) : bnd (rsB l (srtN (srtN t.names))) s = bnd l s := by
 rw [bnd_rsB]
 by_cases hs : s ∈ srtN (srtN t.names)
 · rw [if_pos hs]
 · rw [if_neg hs]
   cases hb : bnd l s with
   | none => rfl
   | some v =>
    rcases mT_names t u [] l h s (by rw [hb]; simp) with q | q
    · exact absurd rfl q
    · exact absurd ((srtN_mem _ _).2 ((srtN_mem _ _).2 q)) hs
noncomputable def fireR (r : RuM) (u : Tm) : Option Tm := match mT r.l u [] with
 | none => none
 | some l => if (r.g.all fun g => holds (appG l g)) = true then some (rW (aS l r.r)) else none
def vfind (vs : List VS) (s : ByteArray) : Option VS := vs.find? fun v => decide (v.1 = s)
theorem lookV_eq (vs : List VS) (s : ByteArray) : lookV vs s = match vfind vs s with | some v => v.2 | none => e0 := rfl
theorem vfind_app (vs : List VS) (x : VS) (s : ByteArray) : vfind (vs ++ [x]) s = match vfind vs s with
 | some v => some v
 | none => if x.1 = s then some x else none := by
 unfold vfind
 rw [List.find?_append]
 cases h : vs.find? fun v => decide (v.1 = s) with
 | some v => rfl
 | none => by_cases e : x.1 = s <;> simp [e]
def Agree (ops : List OpM) (vs : List VS) (l : List Bnd) : Prop := ∀ s,match vfind vs s,bnd l s with
 | none,none => True
 | some v,some w => sortT ops [] w = v.2
 | _,_ => False
theorem Agree.none {ops : List OpM} {vs : List VS} {l : List Bnd} (h : Agree ops vs l) {s : ByteArray} (hv : vfind vs s = Option.none) : bnd l s = Option.none := by
 have := h s
 rw [hv] at this
 cases hb : bnd l s with
 | none => rfl
 | some w => rw [hb] at this; exact this.elim
theorem Agree.some {ops : List OpM} {vs : List VS} {l : List Bnd} (h : Agree ops vs l) {s : ByteArray} {v : VS} (hv : vfind vs s = some v) : ∃ w,bnd l s = some w /\ sortT ops [] w = v.2 := by
 have := h s
 rw [hv] at this
 cases hb : bnd l s with
 | none => rw [hb] at this; exact this.elim
 | some w => rw [hb] at this; exact ⟨w,rfl,this⟩
theorem sort_op {ops : List OpM} {vs : List VS} {t : Tm} (hk : t.k = 2) (hs : sortT ops vs t ≠ e0) : ∃ o,findO ops t.s = some o /\ o.a.length = t.as.length /\ sortsT ops vs t.as o.a = true /\ sortT ops vs t = o.r := by
 rw [sortT_eq,if_neg (by omega),if_neg (by omega),if_pos hk] at hs
 rw [sortT_eq,if_neg (by omega),if_neg (by omega),if_pos hk]
 cases hf : findO ops t.s with
 | none => rw [hf] at hs; exact absurd rfl hs
 | some o =>
  rw [hf] at hs
  simp only at hs ⊢
  by_cases hl : o.a.length = t.as.length
  · rw [if_pos hl] at hs ⊢
    by_cases hq : sortsT ops vs t.as o.a = true
    · exact ⟨o,rfl,hl,hq,by rw [if_pos hq]⟩
    · rw [if_neg hq] at hs; exact absurd rfl hs
  · rw [if_neg hl] at hs; exact absurd rfl hs
theorem sort_of_op {ops : List OpM} {vs : List VS} {t : Tm} (hk : t.k = 2) {o : OpM} (hf : findO ops t.s = some o) (hl : o.a.length = t.as.length) (hq : sortsT ops vs t.as o.a = true) : sortT ops vs t = o.r := by
 rw [sortT_eq,if_neg (by omega),if_neg (by omega),if_pos hk,hf]
 simp only [if_pos hl,if_pos hq]
theorem nodeN_cases {t : Tm} (h : t.areN = true) : (t.k = 1 /\ t.as = []) \/ (t.k = 3 /\ isW t = true /\ t.as = []) \/ t.k = 2 := by
 rw [Tm.areN_eq,Bool.and_eq_true] at h
 have h := h.1
 unfold Tm.nodeN at h
 by_cases h1 : t.k = 1
 · rw [if_pos h1] at h
   simp only [Bool.and_eq_true,decide_eq_true_eq] at h
   exact .inl ⟨h1,List.length_eq_zero_iff.1 h.2.1⟩
 · rw [if_neg h1] at h
   by_cases h3 : t.k = 3
   · rw [if_pos h3] at h
     have h' := h
     simp only [isW,Bool.and_eq_true,decide_eq_true_eq] at h'
     exact .inr (.inl ⟨h3,h,List.length_eq_zero_iff.1 h'.2.2.2.2⟩)
   · rw [if_neg h3] at h
     by_cases h2 : t.k = 2
     · exact .inr (.inr h2)
     · rw [if_neg h2] at h; simp at h
theorem areN_sub {t a : Tm} (h : t.areN = true) (ha : a ∈ t.as) : a.areN = true := by
 rw [Tm.areN_eq,Bool.and_eq_true,Tm.areNL_all,List.all_eq_true] at h
 exact h.2 a ha
theorem agree_match (ops : List OpM) : ∀ t,t.areN = true -> ∀ u x vs vs' l l',sortT ops [] u = x -> x ≠ e0 -> Agree ops vs l -> infT ops t x vs = some vs' -> mT t u l = some l' -> Agree ops vs' l' := Tm.ind fun t ih hn u x vs vs' l l' hu hx hA hi hm => by
 rw [infT_eq] at hi
 by_cases h1 : t.k = 1
 · rw [if_pos h1] at hi
   cases hv : vfind vs t.s with
   | some v =>
    unfold vfind at hv
    rw [hv] at hi
    simp only at hi
    obtain ⟨w,hb,_⟩ := hA.some hv
    split at hi
    · simp only [Option.some.injEq] at hi
      subst hi
      rcases mT_cases hm with ⟨_,_,e⟩ | ⟨_,q,_⟩ | ⟨q,_⟩
      · subst e; exact hA
      · rw [hb] at q; simp at q
      · exact absurd h1 q
    · simp at hi
   | none =>
    have hb := hA.none hv
    have hv' := hv
    unfold vfind at hv
    rw [hv] at hi
    simp only [Option.some.injEq] at hi
    subst hi
    rcases mT_cases hm with ⟨_,⟨v,q⟩,_⟩ | ⟨_,_,e⟩ | ⟨q,_⟩
    · rw [hb] at q; simp at q
    · subst e
      intro s
      have hs := hA s
      rw [vfind_app,bnd_app]
      cases q1 : vfind vs s with
      | some v =>
       rw [q1] at hs
       cases q2 : bnd l s with
       | some w => rw [q2] at hs; exact hs
       | none => rw [q2] at hs; exact hs.elim
      | none =>
       rw [q1] at hs
       cases q2 : bnd l s with
       | some w => rw [q2] at hs; exact hs.elim
       | none =>
        simp only [bnd]
        by_cases e : t.s = s
        · rw [if_pos e,if_pos e]; exact hu
        · rw [if_neg e,if_neg e]; trivial
    · exact absurd h1 q
 · rw [if_neg h1] at hi
   rcases mT_cases hm with ⟨q,_⟩ | ⟨q,_⟩ | ⟨_,e1,e2,e3,e4,hms⟩
   · exact absurd q h1
   · exact absurd q h1
   · rcases nodeN_cases hn with ⟨q,_⟩ | ⟨_,_,q⟩ | h2
     · exact absurd q h1
     · rw [q] at hi hms
       simp only [infL,mTs,Option.some.injEq] at hi hms
       subst hi; subst hms; exact hA
     · obtain ⟨o,hf,hl,hss,_⟩ := sort_op (t := u) (by omega) (by rw [hu]; exact hx)
       rw [if_pos h2,e3,hf] at hi
       simp only at hi
       have key : ∀ (ts us : List Tm) (xs : List ByteArray) (vs vs' : List VS) (l l' : List Bnd),(∀ a ∈ ts,a ∈ t.as) -> us.length = xs.length -> sortsT ops [] us xs = true -> Agree ops vs l -> infL ops ts xs vs = some vs' -> mTs ts us l = some l' -> Agree ops vs' l' := by
        intro ts
        induction ts with
        | nil =>
         intro us xs vs vs' l l' _ _ _ hA hi hm
         simp only [infL,mTs,Option.some.injEq] at hi hm
         subst hi; subst hm; exact hA
        | cons a ts ihs =>
         intro us xs vs vs' l l' hts hlen hss hA hi hm
         cases us with
         | nil => simp [mTs] at hm
         | cons b us =>
          cases xs with
          | nil => simp at hlen
          | cons y xs =>
           simp only [infL] at hi
           simp only [mTs] at hm
           simp only [sortsT,Bool.and_eq_true,Bool.not_eq_true',decide_eq_false_iff_not,decide_eq_true_eq] at hss
           split at hi
           · rename_i vs1 hi1
             split at hm
             · rename_i l1 hm1
               have := ih a (hts a (List.mem_cons_self ..)) (areN_sub hn (hts a (List.mem_cons_self ..))) b y vs vs1 l l1 hss.1.2 (hss.1.2 ▸ hss.1.1) hA hi1 hm1
               exact ihs us xs vs1 vs' l1 l' (fun z hz => hts z (List.mem_cons_of_mem _ hz)) (by simpa using hlen) hss.2 this hi hm
             · simp at hm
           · simp at hi
       exact key _ _ _ _ _ _ _ (fun _ h => h) hl.symm hss hA hi hms
theorem sort_aS {ops : List OpM} {vs : List VS} {l : List Bnd} (hA : Agree ops vs l) : ∀ t,t.areN = true -> sortT ops vs t ≠ e0 -> sortT ops [] (aS l t) = sortT ops vs t := Tm.ind fun t ih hn hs => by
 rcases nodeN_cases hn with ⟨h1,ha⟩ | ⟨h3,_,ha⟩ | h2
 · have e : sortT ops vs t = lookV vs t.s := by rw [sortT_eq,if_neg (by omega),if_pos h1]
   rw [e] at hs ⊢
   rw [lookV_eq] at hs ⊢
   cases hv : vfind vs t.s with
   | none => rw [hv] at hs; exact absurd rfl hs
   | some v =>
    obtain ⟨w,hb,hw⟩ := hA.some hv
    rw [aS_eq,if_pos h1,hb]
    exact hw
 · rw [aS_eq,if_neg (by omega)]
   rw [sortT_eq,sortT_eq ops vs,if_pos (show (Tm.mk t.k t.n t.s _).k = 3 from h3),if_pos h3]
 · obtain ⟨o,hf,hl,hss,e⟩ := sort_op h2 hs
   rw [aS_eq,if_neg (by omega),e]
   have key : ∀ (ts : List Tm) (xs : List ByteArray),(∀ a ∈ ts,a ∈ t.as) -> sortsT ops vs ts xs = true -> sortsT ops [] (ts.map (aS l)) xs = true := by
    intro ts
    induction ts with
    | nil => intro xs _ _; rfl
    | cons a ts ihs =>
     intro xs hts h
     cases xs with
     | nil => rfl
     | cons y xs =>
      simp only [sortsT,Bool.and_eq_true,Bool.not_eq_true',decide_eq_false_iff_not,decide_eq_true_eq] at h
      have q := ih a (hts a (List.mem_cons_self ..)) (areN_sub hn (hts a (List.mem_cons_self ..))) h.1.1
      simp only [List.map_cons,sortsT,Bool.and_eq_true,Bool.not_eq_true',decide_eq_false_iff_not,decide_eq_true_eq,q]
      exact ⟨h.1,ihs xs (fun z hz => hts z (List.mem_cons_of_mem _ hz)) h.2⟩
   exact sort_of_op (t := .mk t.k t.n t.s (t.as.map (aS l))) h2 hf (by simpa [Tm.as] using hl) (key _ _ (fun _ h => h) hss)
theorem sort_rW (ops : List OpM) (vs : List VS) : ∀ t,t.areN = true -> sortT ops vs t ≠ e0 -> sortT ops vs (rW t) = sortT ops vs t := Tm.ind fun t ih hn hs => by
 have plain : sortT ops vs (.mk t.k t.n t.s (t.as.map rW)) = sortT ops vs t := by
  rcases nodeN_cases hn with ⟨h1,ha⟩ | ⟨h3,_,ha⟩ | h2
  · rw [sortT_eq,sortT_eq ops vs t,if_neg (show ¬ (Tm.mk t.k t.n t.s _).k = 3 by show ¬ t.k = 3; omega),if_pos (show (Tm.mk t.k t.n t.s _).k = 1 from h1),if_neg (by omega),if_pos h1]; rfl
  · rw [sortT_eq,sortT_eq ops vs t,if_pos (show (Tm.mk t.k t.n t.s _).k = 3 from h3),if_pos h3]
  · obtain ⟨o,hf,hl,hss,e⟩ := sort_op h2 hs
    rw [e]
    have key : ∀ (ts : List Tm) (xs : List ByteArray),(∀ a ∈ ts,a ∈ t.as) -> sortsT ops vs ts xs = true -> sortsT ops vs (ts.map rW) xs = true := by
     intro ts
     induction ts with
     | nil => intro xs _ _; rfl
     | cons a ts ihs =>
      intro xs hts h
      cases xs with
      | nil => rfl
      | cons y xs =>
       simp only [sortsT,Bool.and_eq_true,Bool.not_eq_true',decide_eq_false_iff_not,decide_eq_true_eq] at h
       have q := ih a (hts a (List.mem_cons_self ..)) (areN_sub hn (hts a (List.mem_cons_self ..))) h.1.1
       simp only [List.map_cons,sortsT,Bool.and_eq_true,Bool.not_eq_true',decide_eq_false_iff_not,decide_eq_true_eq,q]
       exact ⟨h.1,ihs xs (fun z hz => hts z (List.mem_cons_of_mem _ hz)) h.2⟩
    exact sort_of_op (t := .mk t.k t.n t.s (t.as.map rW)) h2 hf (by simpa [Tm.as] using hl) (key _ _ (fun _ h => h) hss)
 rw [rW_eq]
 unfold rW1
 split
 · rename_i x y hxy
   split
   · rename_i hc
     obtain ⟨hk,_,hB,_,_⟩ := hc
     obtain ⟨o,hf,_,_,e⟩ := sort_op hk hs
     rw [e]
     unfold findO at hf
     rw [if_pos hB] at hf
     simp only [Option.some.injEq] at hf
     subst hf
     rw [sortT_eq]; rfl
   · exact plain
 · exact plain
end Go.Q
