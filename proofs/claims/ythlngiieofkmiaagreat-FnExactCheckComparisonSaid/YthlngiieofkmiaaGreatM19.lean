/- The functions of this seat, as that machine runs them. -/
import Derived.Test.YthlngiieofkmiaaGreatM18
set_option linter.unusedVariables false
set_option linter.unusedSimpArgs false
/- Translations,instances that are configurations,refutations. -/
namespace Go.Q
open Go
mutual
def cO (s : ByteArray) : Tm -> Bool
 | .mk k n x as => (decide (k = 2) && decide (x = s)) || cOs s as
def cOs (s : ByteArray) : List Tm -> Bool
 | [] => false
 | t :: ts => cO s t || cOs s ts
end
theorem cOs_any (s : ByteArray) : ∀ l,cOs s l = l.any (cO s)
 | [] => rfl
 | t :: l => by simp only [cOs,List.any_cons,cOs_any s l]
theorem cO_eq (s : ByteArray) (t : Tm) : cO s t = ((decide (t.k = 2) && decide (t.s = s)) || t.as.any (cO s)) := by
 cases t; simp only [cO,cOs_any,Tm.k,Tm.s,Tm.as]; rfl
noncomputable def trT (d : DfM) (t : Tm) (s : ByteArray) : Option Tm := match runT d (.mk 2 0 s [t]) 200 with
 | some r => if r.o = 1 then (if cO s r.t = true then none else some r.t) else none
 | none => none
def trU : Option Tm -> Tm
 | some u => u
 | none => tm0
def trR (R : Option Tm) : List D := [.int (trU R).k,.int (trU R).n,.str (trU R).s,.bool R.isSome,.sl ((trU R).as.map Tm.row)]
theorem wt_app {t : Tm} (h : Wt t) {s : ByteArray} (hs : s.size <= maxLen) : Wt (.mk 2 0 s [t]) := .mk (S.i64ok_of (by show _ <= (2 : Int); decide) (by show (2 : Int) <= _; decide)) (S.i64ok_of (by show _ <= (0 : Int); decide) (by show (0 : Int) <= _; decide)) hs (by rw [Tm.as_mk]; show 1 <= maxLen; decide) (by intro a ha; rw [Tm.as_mk] at ha; simp only [List.mem_singleton] at ha; exact ha ▸ h)
theorem tr_ok {d : DfM} (hb : DfB d) {t : Tm} (hw : Wt t) {s : ByteArray} (hs : s.size <= maxLen) : Wt (trU (trT d t s)) /\ (trU (trT d t s)).nodes <= 60 := by
 unfold trT
 cases h : runT d (.mk 2 0 s [t]) 200 with
 | none => exact ⟨wt0,show tm0.nodes <= 60 by decide⟩
 | some r =>
  obtain ⟨g,_⟩ := runT_good hb (wt_app hw hs) h
  simp only
  split
  · split
    · exact ⟨wt0,by decide⟩
    · exact ⟨g.t.w,g.tn⟩
  · exact ⟨wt0,by decide⟩
theorem depthL_le {f : Tm -> Tm} : ∀ (l : List Tm),(∀ a ∈ l,(f a).depth <= a.depth) -> Tm.depthL (l.map f) <= Tm.depthL l
 | [],_ => Nat.le_refl _
 | a :: l,h => by
  have h1 := h a (List.mem_cons_self ..)
  have h2 := depthL_le l fun b hb => h b (List.mem_cons_of_mem _ hb)
  simp only [List.map_cons,Tm.depthL]; omega
theorem depth_aS {l : List Bnd} (hl : ∀ b ∈ l,b.2.depth = 1) : ∀ t,(aS l t).depth <= t.depth := Tm.ind fun t ih => by
 rw [aS_eq]
 have h1 := Tm.depth_eq t
 split
 · rename_i u hu
   split at hu
   · obtain ⟨b,hb,rfl⟩ := bnd_mem hu
     rw [hl b hb]; omega
   · simp at hu
 · rw [Tm.depth_eq,Tm.as_mk]
   have := depthL_le t.as ih
   omega
theorem depth_rW : ∀ t,(rW t).depth <= t.depth := Tm.ind fun t ih => by
 have h1 := Tm.depth_eq t
 have plain : (Tm.mk t.k t.n t.s (t.as.map rW)).depth <= t.depth := by
  rw [Tm.depth_eq,Tm.as_mk]
  have := depthL_le t.as ih
  omega
 rw [rW_eq]
 unfold rW1
 split
 · rename_i x y hxy
   split
   · rw [Tm.depth_eq,Tm.as_mk]; simp only [Tm.depthL]; omega
   · exact plain
 · exact plain
theorem vals_eq_len {n : Nat} {c : Int} (h : isC n c = true) : (vals n c).length = n := by
 have h3 := (isC_le h).1
 unfold vals
 rw [if_pos h]
 match n,h3 with
 | 0,_ => rfl
 | 1,_ => rfl
 | 2,_ => rfl
 | 3,_ => rfl
theorem vals_w {n : Nat} {c : Int} (h : isC n c = true) : ∀ x ∈ vals n c,0 <= x /\ x < 4 := fun x hx => by
 obtain ⟨h3,h0,_⟩ := isC_le h
 have hm : ∀ a : Int,0 <= a -> 0 <= a.tmod 4 /\ a.tmod 4 < 4 := fun a ha => ⟨Int.tmod_nonneg 4 ha,Int.tmod_lt_of_pos _ (by decide)⟩
 have hd : ∀ a : Int,0 <= a -> 0 <= a.tdiv 4 := fun a ha => Int.tdiv_nonneg ha (by decide)
 unfold vals at hx
 rw [if_pos h] at hx
 match n,h3 with
 | 0,_ => simp at hx
 | 1,_ =>
  simp only [List.mem_singleton] at hx
  subst hx; exact hm _ h0
 | 2,_ =>
  simp only [List.mem_cons,List.not_mem_nil,or_false] at hx
  rcases hx with e | e
  · subst e; exact hm _ (hd _ h0)
  · subst e; exact hm _ h0
 | 3,_ =>
  simp only [List.mem_cons,List.not_mem_nil,or_false] at hx
  rcases hx with e | e | e
  · subst e; exact hm _ (hd _ (hd _ h0))
  · subst e; exact hm _ (hd _ h0)
  · subst e; exact hm _ h0
theorem sort_word (ops : List OpM) (n : Int) : sortT ops [] (word n) = wordS := by unfold word; rw [sortT_eq]; rfl
theorem zip_agree (ops : List OpM) : ∀ (vars : List ByteArray) (vs : List Int),vs.length = vars.length -> Agree ops (wv vars) ((vars.zip vs).map fun p => (p.1,word p.2))
 | [],[],_ => by
  intro s; simp [wv,vfind,bnd]
 | [],_ :: _,h => by simp at h
 | _ :: _,[],h => by simp at h
 | x :: vars,v :: vs,h => by
  have ih := zip_agree ops vars vs (by simpa using h)
  intro s
  have hs := ih s
  unfold wv vfind at hs ⊢
  simp only [List.map_cons,List.zip_cons_cons,List.find?_cons,bnd]
  by_cases e : x = s
  · simp only [e,decide_true,if_true]
    exact sort_word ops v
  · simp only [e,decide_false,if_false]
    exact hs
theorem zip_bnd : ∀ (vars : List ByteArray) (vs : List Int) (s : ByteArray),vs.length = vars.length -> s ∈ vars -> ∃ n ∈ vs,bnd ((vars.zip vs).map fun p => (p.1,word p.2)) s = some (word n)
 | [],_,s,_,h => by simp at h
 | _ :: _,[],_,h,_ => by simp at h
 | x :: vars,v :: vs,s,h,hs => by
  simp only [List.zip_cons_cons,List.map_cons,bnd]
  by_cases e : x = s
  · exact ⟨v,List.mem_cons_self ..,by rw [if_pos e]⟩
  · rw [if_neg e]
    obtain ⟨n,h1,h2⟩ := zip_bnd vars vs s (by simpa using h) (by
     rcases List.mem_cons.1 hs with q | q
     · exact absurd q.symm e
     · exact q)
    exact ⟨n,List.mem_cons_of_mem _ h1,h2⟩
theorem aS_ground {l : List Bnd} (hg : ∀ b ∈ l,b.2.names = []) : ∀ t,(∀ s ∈ t.names,bnd l s ≠ none) -> (aS l t).names = [] := Tm.ind fun t ih h => by
 rw [Tm.names_eq] at h
 rw [aS_eq]
 by_cases hk : t.k = 1
 · rw [if_pos hk] at h ⊢
   cases hb : bnd l t.s with
   | some v =>
    obtain ⟨b,h1,rfl⟩ := bnd_mem hb
    exact hg b h1
   | none => exact absurd hb (h t.s (by simp))
 · rw [if_neg hk] at h ⊢
   simp only
   rw [Tm.names_eq,Tm.k_mk,Tm.as_mk,if_neg hk,List.nil_append,List.flatMap_map]
   rw [flat_congr (g := fun _ => []) fun a ha => ih a ha fun s hs => h s (List.mem_append.2 (.inr (List.mem_flatMap.2 ⟨a,ha,hs⟩)))]
   induction t.as with
   | nil => rfl
   | cons a l ih => rw [List.flatMap_cons,ih]; rfl
theorem cfg_inst {d : DfM} {vars : List ByteArray} {t : Tm} (hs : symV d vars t = true) {c : Int} (hc : isC vars.length c = true) : cfg d (inst vars t c) = true := by
 simp only [symV,Bool.and_eq_true,Bool.not_eq_true',decide_eq_false_iff_not] at hs
 obtain ⟨hv,_,_,_,htv,hwi,hso⟩ := hs
 have hlen := vals_eq_len hc
 have hA := zip_agree d.op vars (vals vars.length c) hlen
 have htn := valid_areN htv
 have hw : ∀ b ∈ caseS vars c,b.2.areN = true /\ (b.2.names = [] /\ (b.2.depth = 1 /\ b.2.nodes = 1)) := fun b hb => by
  unfold caseS at hb
  simp only [List.mem_map] at hb
  obtain ⟨p,hp,rfl⟩ := hb
  obtain ⟨v1,v2⟩ := vals_w hc _ (List.of_mem_zip hp).2
  refine ⟨?_,rfl,rfl,rfl⟩
  show (word p.2).areN = true
  unfold word
  rw [Tm.areN_eq]
  unfold Tm.nodeN isW
  simp only [Tm.k_mk,Tm.n_mk,Tm.s_mk,Tm.as_mk]
  simp [Tm.areNL,v1,v2]
 have hn1 := areN_aS (fun b hb => (hw b hb).1) t htn
 have hs1 : sortT d.op [] (aS (caseS vars c) t) = sortT d.op (wv vars) t := sort_aS hA t htn hso
 have hs2 : sortT d.op [] (inst vars t c) = sortT d.op (wv vars) t := by unfold inst; rw [sort_rW d.op [] _ hn1 (by rw [hs1]; exact hso),hs1]
 simp only [cfg,Bool.and_eq_true,Bool.not_eq_true',decide_eq_false_iff_not]
 refine ⟨hv,?_,?_,by rw [hs2]; exact hso⟩
 · simp only [Tm.valid,Bool.and_eq_true,decide_eq_true_eq] at htv ⊢
   have a1 := aS_nodes (fun b hb => (hw b hb).2.2.2) t
   have a2 := rW_nodes (aS (caseS vars c) t)
   have a3 := depth_aS (fun b hb => (hw b hb).2.2.1) t
   have a4 := depth_rW (aS (caseS vars c) t)
   exact ⟨by unfold inst; omega,by unfold inst; omega,areN_rW _ hn1⟩
 · unfold isG inst
   rw [rW_names,aS_ground (fun b hb => (hw b hb).2.1) t fun s hs => by
    obtain ⟨n,_,e⟩ := zip_bnd vars (vals vars.length c) s hlen (within_iff.1 hwi s hs)
    show bnd (caseS vars c) s ≠ none
    unfold caseS
    rw [e]; simp]
   rfl
theorem runT_cfg {d : DfM} {t : Tm} (h : cfg d t = true) : runT d t 200 = some (runF d 200 t) := by
 unfold runT
 rw [if_pos ⟨by decide,by decide,h⟩]; rfl
noncomputable def refB (d : DfM) (u g : Tm) : Bool := match runT d u 200 with
 | some r => decide (r.o = 1) && !reachR (some r) u g
 | none => false
noncomputable def refF (c : ClM) : Option Nat := if c.valid = true then (allC c.v c.g).find? fun i => refB c.d (S.instR c.v c.l (i : Int)) (S.instR c.v c.r (i : Int)) else none
def refD : Option Nat -> List D
 | some i => [.int (i : Int),.bool true]
 | none => [.int 0,.bool false]
theorem allC_isC {vars : List ByteArray} {gs : List Gu} {i : Nat} (h : i ∈ allC vars gs) : isC vars.length (i : Int) = true := by
 unfold allC at h
 have h1 := (List.mem_filter.1 h).1
 have h2 := cnt4_le vars.length
 simp only [List.mem_range] at h1
 simp only [isC,Bool.and_eq_true,decide_eq_true_eq]
 omega
theorem instR_C {vars : List ByteArray} {t : Tm} {c : Int} (h : isC vars.length c = true) : S.instR vars t c = inst vars t c := by unfold S.instR; rw [if_pos h]
end Go.Q
namespace Go.Q
open Go
theorem wt_word {n : Int} (h0 : 0 <= n) (h1 : n < 4) : Wt (word n) := .mk (S.i64ok_of (by show _ <= (3 : Int); decide) (by show (3 : Int) <= _; decide)) (S.i64ok_of (by show _ <= n; omega) (by show n <= _; omega)) (by show (⟨#[]⟩ : ByteArray).size <= maxLen; decide) (Nat.zero_le _) (by intro a ha; simp [word,Tm.as] at ha)
theorem wt_instR {vars : List ByteArray} {t : Tm} (h : Wt t) (c : Int) : Wt (S.instR vars t c) := by
 unfold S.instR
 split
 · rename_i hc
   refine wt_rW _ (wt_aS (fun b hb => ?_) t h)
   unfold caseS at hb
   simp only [List.mem_map] at hb
   obtain ⟨p,hp,rfl⟩ := hb
   obtain ⟨v1,v2⟩ := vals_w hc _ (List.of_mem_zip hp).2
   exact wt_word v1 v2
 · exact wt0
def refI : Option Nat -> Int
 | some i => (i : Int)
 | none => 0
theorem refD_eq (R : Option Nat) : refD R = [.int (refI R),.bool R.isSome] := by cases R <;> rfl
end Go.Q
