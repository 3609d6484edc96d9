/- The functions of this seat, as that machine runs them. -/
import Derived.Test.YthlngiieofkmiaaGreatM10
set_option linter.unusedVariables false
set_option linter.unusedSimpArgs false
namespace Go.Q
open Go
structure GuB (g : Gu) : Prop where
 wl : Wt g.l
 wr : Wt g.r
 ln : g.l.nodes <= 1048577
 rn : g.r.nodes <= 1048577
structure RuB (r : RuM) : Prop where
 n : r.n.size <= maxLen
 wl : Wt r.l
 wr : Wt r.r
 ln : r.l.nodes <= 1048577
 rn : r.r.nodes <= 1048577
 g : r.g.length <= 1048576
 ga : ∀ g ∈ r.g,GuB g
structure DfB (d : DfM) : Prop where
 so : d.so.length <= 1048576
 sos : ∀ x ∈ d.so,x.size <= maxLen
 op : SigB d.op
 opn : ∀ o ∈ d.op,o.n.size <= maxLen
 ru : d.ru.length <= 1048576
 rua : ∀ r ∈ d.ru,RuB r
 st : d.st.length <= 1048576
theorem sortsT_ne (ops : List OpM) (vs : List VS) : ∀ (l : List Tm) (xs : List ByteArray),l.length <= xs.length -> sortsT ops vs l xs = true -> ∀ t ∈ l,sortT ops vs t ≠ e0
 | [],_,_,_,t,ht => by simp at ht
 | t :: l,[],hl,_,_,_ => by simp at hl
 | t :: l,x :: xs,hl,h,u,hu => by
  simp only [sortsT,Bool.and_eq_true,Bool.not_eq_true',decide_eq_false_iff_not,decide_eq_true_eq] at h
  rcases List.mem_cons.1 hu with e | hu
  · exact e ▸ h.1.1
  · exact sortsT_ne ops vs l xs (by simpa using hl) h.2 u hu
theorem lookV_mem {vs : List VS} {s : ByteArray} (h : lookV vs s ≠ e0) : ∃ v ∈ vs,v.1 = s := by
 unfold lookV at h
 cases hq : vs.find? (fun v => decide (v.1 = s)) with
 | none => rw [hq] at h; exact absurd rfl h
 | some v => exact ⟨v,List.mem_of_find?_eq_some hq,by simpa using List.find?_some hq⟩
theorem sort_within (ops : List OpM) (vs : List VS) : ∀ t : Tm,t.areN = true -> sortT ops vs t ≠ e0 -> ∀ x ∈ t.names,∃ v ∈ vs,v.1 = x := Tm.ind fun t ih hn hs x hx => by
 rw [Tm.areN_eq,Bool.and_eq_true,Tm.areNL_all,List.all_eq_true] at hn
 obtain ⟨h1,h2⟩ := hn
 rw [Tm.names_eq] at hx
 rw [sortT_eq] at hs
 unfold Tm.nodeN at h1
 by_cases hk1 : t.k = 1
 · rw [if_pos hk1] at h1
   simp only [Bool.and_eq_true,decide_eq_true_eq] at h1
   have ha : t.as = [] := List.length_eq_zero_iff.1 h1.2.1
   rw [ha] at hx
   rw [if_neg (by omega),if_pos hk1] at hs
   simp only [hk1,if_true,List.flatMap_nil,List.append_nil,List.mem_singleton] at hx
   subst hx
   exact lookV_mem hs
 · rw [if_neg hk1] at hx
   obtain ⟨a,ha,hxa⟩ := List.mem_flatMap.1 hx
   by_cases hk3 : t.k = 3
   · rw [if_neg hk1,if_pos hk3] at h1
     have : t.as = [] := by simp only [isW,Bool.and_eq_true,decide_eq_true_eq] at h1; exact List.length_eq_zero_iff.1 h1.2.2.2.2
     rw [this] at ha; simp at ha
   · rw [if_neg hk3,if_neg hk1] at hs
     by_cases hk2 : t.k = 2
     · rw [if_pos hk2] at hs
       cases hf : findO ops t.s with
       | none => rw [hf] at hs; exact absurd rfl hs
       | some o =>
        rw [hf] at hs
        simp only at hs
        by_cases hl : o.a.length = t.as.length
        · rw [if_pos hl] at hs
          by_cases hss : sortsT ops vs t.as o.a = true
          · exact ih a ha (h2 a ha) (sortsT_ne ops vs t.as o.a (by omega) hss a ha) x hxa
          · rw [if_neg hss] at hs; exact absurd rfl hs
        · rw [if_neg hl] at hs; exact absurd rfl hs
     · rw [if_neg hk2] at hs; exact absurd rfl hs
theorem infL_names (ops : List OpM) : ∀ (l : List Tm),(∀ t ∈ l,∀ x vs vs',infT ops t x vs = some vs' -> ∀ v ∈ vs',v ∈ vs \/ v.1 ∈ t.names) -> ∀ xs vs vs',infL ops l xs vs = some vs' -> ∀ v ∈ vs',v ∈ vs \/ v.1 ∈ l.flatMap Tm.names
 | [],_,xs,vs,vs',h,v,hv => by simp only [infL,Option.some.injEq] at h; subst h; exact .inl hv
 | t :: l,ih,xs,vs,vs',h,v,hv => by
  have step : ∀ x ys w,infT ops t x vs = some w -> infL ops l ys w = some vs' -> v ∈ vs \/ v.1 ∈ (t :: l).flatMap Tm.names := fun x ys w hq h => by
   simp only [List.flatMap_cons,List.mem_append]
   rcases infL_names ops l (fun a ha => ih a (List.mem_cons_of_mem _ ha)) ys w vs' h v hv with h1 | h1
   · rcases ih t (List.mem_cons_self ..) x vs w hq v h1 with h2 | h2
     · exact .inl h2
     · exact .inr (.inl h2)
   · exact .inr (.inr h1)
  cases xs with
  | nil =>
   simp only [infL] at h
   split at h
   · rename_i w hq; exact step _ _ w hq h
   · simp at h
  | cons x ys =>
   simp only [infL] at h
   split at h
   · rename_i w hq; exact step _ _ w hq h
   · simp at h
theorem infT_names (ops : List OpM) : ∀ t : Tm,∀ x vs vs',infT ops t x vs = some vs' -> ∀ v ∈ vs',v ∈ vs \/ v.1 ∈ t.names := Tm.ind fun t ih x vs vs' h v hv => by
 rw [infT_eq] at h
 rw [Tm.names_eq]
 by_cases hk : t.k = 1
 · rw [if_pos hk] at h ⊢
   split at h
   · split at h
     · simp only [Option.some.injEq] at h; subst h; exact .inl hv
     · simp at h
   · simp only [Option.some.injEq] at h; subst h
     rcases List.mem_append.1 hv with h1 | h1
     · exact .inl h1
     · simp only [List.mem_singleton] at h1; subst h1; simp
 · rw [if_neg hk] at h
   rcases infL_names ops t.as ih _ _ _ h v hv with h1 | h1
   · exact .inl h1
   · exact .inr (List.mem_append.2 (.inr h1))
theorem infV_inf {ops : List OpM} {t : Tm} {x : ByteArray} {vs : List VS} (h : infV ops t x = some vs) : infT ops t x [] = some vs := by
 unfold infV at h
 cases hq : infT ops t x [] with
 | none => rw [hq] at h; simp at h
 | some w =>
  rw [hq] at h
  simp only at h
  split at h
  · simp at h
  · split at h
    · exact h
    · simp at h
theorem infV_names {ops : List OpM} {t : Tm} {x : ByteArray} {vs : List VS} (h : infV ops t x = some vs) : ∀ v ∈ vs,v.1 ∈ t.names := fun v hv => by
 rcases infT_names ops t x [] vs (infV_inf h) v hv with h1 | h1
 · simp at h1
 · exact h1
theorem infV_len {ops : List OpM} {t : Tm} {x : ByteArray} {vs : List VS} (h : infV ops t x = some vs) : vs.length <= t.nodes := by
 have := infT_len ops t x [] vs (infV_inf h); simpa using this
theorem within_iff {t : Tm} {names : List ByteArray} : within t names = true ↔ ∀ x ∈ t.names,x ∈ names := by
 simp only [within,List.all_eq_true,hasS_iff]
theorem valid_areN {t : Tm} (h : t.valid = true) : t.areN = true := by
 simp only [Tm.valid,Bool.and_eq_true] at h; exact h.2.2
theorem guOK_within {ops : List OpM} {vs : List VS} {g : Gu} {names : List ByteArray} (hv : ∀ v ∈ vs,v.1 ∈ names) (h : guOK ops vs g = true) : within g.l names = true /\ within g.r names = true := by
 simp only [guOK,Bool.and_eq_true,Bool.not_eq_true',decide_eq_false_iff_not,decide_eq_true_eq] at h
 obtain ⟨_,h1,h2,h3,h4,_⟩ := h
 constructor
 · refine within_iff.2 fun x hx => ?_
   obtain ⟨v,hm,e⟩ := sort_within ops vs g.l (valid_areN h1) h3 x hx
   exact e ▸ hv v hm
 · refine within_iff.2 fun x hx => ?_
   obtain ⟨v,hm,e⟩ := sort_within ops vs g.r (valid_areN h2) (h4 ▸ h3) x hx
   exact e ▸ hv v hm
theorem wo_len (l r : List ByteArray) : decide ((wo l r).length = 0) = l.all fun s => hasS r s := by
 induction l with
 | nil => rfl
 | cons x l ih =>
  unfold wo at ih ⊢
  rw [List.filter_cons,List.all_cons]
  cases h : hasS r x with
  | true => simpa using ih
  | false => simp
theorem wo_srt (t u : Tm) : (wo (srtN t.names) (srtN u.names)).length = 0 ↔ within t u.names = true := by
 have := wo_len (srtN t.names) (srtN u.names)
 rw [<- decide_eq_true_iff (p := (wo (srtN t.names) (srtN u.names)).length = 0),this,within_iff]
 simp only [List.all_eq_true,hasS_iff,srtN_mem]
theorem wo_srt' (t : Tm) (ns : List ByteArray) : (wo (srtN t.names) ns).length = 0 ↔ within t ns = true := by
 have := wo_len (srtN t.names) ns
 rw [<- decide_eq_true_iff (p := (wo (srtN t.names) ns).length = 0),this,within_iff]
 simp only [List.all_eq_true,hasS_iff,srtN_mem]
end Go.Q
