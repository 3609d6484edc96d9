/- A logic over the walk in which memory is hidden, part 8: addresses, lengths, new boxes. -/
import Derived.Test.YtmahppdampmpfaaRF7
set_option linter.unusedVariables false
namespace Go.RF
open Go.RowKit (Below)

/-- Where field f of a struct type lies. -/
def fo (P : Program) (t : TypeId) (f : Nat) : Option Nat :=
  match P.underlying t with
  | some (.struct fs) => match fs[f]? with
    | some fd => match P.info? fd.type with
      | some i => if i.size = 0 then none else some fd.offset
      | none => none
    | none => none
  | _ => none
theorem run_fieldAt' {P : Program} {t : TypeId} {f n : Nat} (h : fo P t f = some n) (w : World) (b o : Nat) :
    (Instr.fieldAt t (.pointer (some ⟨b, o, none⟩)) f).run P w = .ok (.pointer (some ⟨b, o + n, none⟩)) w := by
  unfold fo at h
  split at h
  · rename_i fs hu
    split at h
    · rename_i fd hf
      split at h
      · rename_i i hi
        split at h
        · simp at h
        · rename_i hz
          obtain rfl : fd.offset = n := by simpa using h
          simp [Instr.fieldAt, run_underlying hu, hf, Instr.sureAddr, fieldPlace, sizeOf, typeInfo, hi, hz, add_lit, pure]
      · simp at h
    · simp at h
  · simp at h

theorem Taken.bp {G : Gh} {w : World} {m : List (Nat × AV)} (k off : Nat) :
    Taken G w m m (V.one (.bp k off)).acs [.pointer (some ⟨G.bm k, off, none⟩)] (fun _ _ => False) (fun _ => none) := by
  refine ⟨Drop.refl m, rfl, fun i ac hi => ?_, fun i i' p _ _ h => by simp at h⟩
  cases i with
  | zero =>
    obtain rfl : _ = ac := by simpa [V.acs] using hi
    exact ⟨rfl, fun hc => by simp [AC.cap] at hc⟩
  | succ i => simp [V.acs] at hi
theorem Taken.dat {G : Gh} {w : World} {m : List (Nat × AV)} {d : D} {u : Value} {B : List Nat} (h : Rd w G.F d u B) :
    Taken G w m m (V.one (dv d)).acs [u] (fun _ _ => False) (fun _ => none) := by
  refine ⟨Drop.refl m, rfl, fun i ac hi => ?_, fun i i' p _ _ h => by simp at h⟩
  cases i with
  | zero =>
    obtain rfl : _ = ac := by simpa [V.acs] using hi
    exact ⟨dv_acr h, fun hc => by rw [← dv_dr, dr_cap] at hc; simp at hc⟩
  | succ i => simp [V.acs] at hi

theorem op_field_box {E : Env} {m : List (Nat × AV)} {o : Oper} {x : Operand} {t : TypeId} {f n d k off wd : Nat} (ho : o.op = .fieldAddr t x f) (hd : o.dst = some d) (hlt : d < E.nt)
    (hx : opd wd m x = some (.one (.bp k off))) (hf : fo E.P t f = some n) : OpSt E m o (put m (3 * d) (.val (.one (.bp k (off + n))))) := by
  intro a w ⟨G, h⟩
  obtain ⟨val, own, hs, hc⟩ := opd_ok h hx
  have he : a.eval x = .pointer (some ⟨G.bm k, off, none⟩) := hs.trans (hc 0 _ rfl)
  refine ⟨.pointer (some ⟨G.bm k, off + n, none⟩), (by simp [execOp, ho, he, run_fieldAt' hf, pure]), ?_⟩
  rw [hd]; exact h.place d hlt _ _ (Taken.bp k (off + n)) rfl

theorem Lies.drop_ {w : World} {F : Fz} {b o : Nat} {vs : List Value} (h : Lies w F b o vs) (n : Nat) : Lies w F b (o + n) (vs.drop n) := by
  intro j u hj
  rw [List.getElem?_drop] at hj
  have := h (n + j) u hj
  rwa [← Nat.add_assoc] at this

theorem op_field_ptr {E : Env} {m : List (Nat × AV)} {o : Oper} {x : Operand} {t : TypeId} {f n d wd : Nat} {ds : List D} {cc oo : Bool} (ho : o.op = .fieldAddr t x f) (hd : o.dst = some d) (hlt : d < E.nt)
    (hx : opd wd m x = some (.one (.v (.ptr ds) cc oo))) (hf : fo E.P t f = some n) : OpSt E m o (put m (3 * d) (.val (.one (dv (.ptr (ds.drop n)))))) := by
  intro a w ⟨G, h⟩
  obtain ⟨b, off, vs, B, he, h1, h2⟩ := ptr_of h hx
  refine ⟨.pointer (some ⟨b, off + n, none⟩), (by simp [execOp, ho, he, run_fieldAt' hf, pure]), ?_⟩
  rw [hd]
  obtain ⟨B', h3⟩ := RdL.drop_ n h2
  exact h.place d hlt _ _ (Taken.dat (B := B') (by simp only [Rd]; exact ⟨b, off + n, _, rfl, h1.drop_ n, h3⟩)) rfl

/-- The cells and bytes of a slice type's elements. -/
def se (P : Program) (t : TypeId) : Option (Nat × Nat) :=
  match P.underlying t with
  | some (.slice e) => (P.info? e).map fun i => (i.size, i.bytes)
  | _ => none
theorem se_spec {P : Program} {t : TypeId} {n b : Nat} (h : se P t = some (n, b)) : ∃ e i, P.underlying t = some (.slice e) ∧ P.info? e = some i ∧ i.size = n ∧ i.bytes = b := by
  unfold se at h
  split at h
  · rename_i e he
    obtain ⟨i, h1, h2⟩ := Option.map_eq_some_iff.1 h
    simp only [Prod.mk.injEq] at h2
    exact ⟨e, i, he, h1, h2.1, h2.2⟩
  · simp at h

theorem sl_of {E : Env} {G : Gh} {m : List (Nat × AV)} {a : Act} {w : World} (h : RelG E G ⟨m⟩ a w) {wd wd' : Nat} {x : Operand} {es : List (List D)} {c o : Bool}
    (hx : opd wd' m x = some (.one (.v (.sl wd es) c o))) : ∃ B, Rd w G.F (.sl wd es) (a.eval x) B := by
  obtain ⟨val, own, hs, hc⟩ := opd_ok h hx
  obtain ⟨B, h1, _⟩ := hc 0 _ rfl
  exact ⟨B, hs.symm ▸ h1⟩

theorem op_index {E : Env} {m : List (Nat × AV)} {o : Oper} {x ix : Operand} {t : TypeId} {wd by_ d wd' : Nat} {es : List (List D)} {c1 o1 c2 o2 : Bool} {k : IntKind} {n : Int}
    (ho : o.op = .indexAddr t x ix) (hd : o.dst = some d) (hlt : d < E.nt) (ht : se E.P t = some (wd, by_)) (hx : opd wd' m x = some (.one (.v (.sl wd es) c1 o1)))
    (hi : opd 0 m ix = some (.one (.v (.raw (.int k n)) c2 o2))) (h0 : 0 ≤ n) (h1 : n < es.length) :
    OpSt E m o (put m (3 * d) (.val (.one (dv (.ptr (es.getD n.toNat [])))))) := by
  intro a w ⟨G, h⟩
  obtain ⟨B, hr⟩ := sl_of h hx
  have hie := (opd_raw h hi).1
  obtain ⟨e, ie, hu, hi1, hi2, _⟩ := se_spec ht
  simp only [Rd] at hr
  obtain ⟨A, cap, e1, e2, e3, e4, e5⟩ := hr
  have hn : n.toNat < es.length := by omega
  rcases e5 with ⟨rfl, _⟩ | ⟨b, off, vs, B', rfl, rfl, hl, hrows⟩
  · simp at h1; omega
  · obtain ⟨us, B2, k1, k2, _⟩ := hrows.at_ e4 hl n.toNat hn
    refine ⟨.pointer (some ⟨b, off + n.toNat * wd, none⟩), ?_, ?_⟩
    · simp [execOp, ho, e1, hie, Instr.indexAt, asIntOf, run_underlying hu, sizeOf, typeInfo, hi1, hi2, h0, h1, add_lit, pure]
    · rw [hd]
      refine h.place d hlt _ _ (Taken.dat (B := B2) ?_) rfl
      simp only [Rd]
      exact ⟨b, off + n.toNat * wd, us, rfl, k1, by simpa [List.getD, hn] using k2⟩

theorem op_len_sl {E : Env} {m : List (Nat × AV)} {o : Oper} {x : Operand} {t : TypeId} {wd by_ d wd' wq : Nat} {es : List (List D)} {c1 o1 : Bool}
    (ho : o.op = .call { callee := .builtin .len, args := #[x], argTypes := #[t] }) (hd : o.dst = some d) (hlt : d < E.nt) (ht : se E.P t = some (wd', by_)) (hx : opd wq m x = some (.one (.v (.sl wd es) c1 o1))) :
    OpSt E m o (put m (3 * d) (.val (.one (.v (.raw (.int .i64 es.length)) false true)))) := by
  refine op_pure hd hlt rfl fun G a w h => ?_
  obtain ⟨B, hr⟩ := sl_of h hx
  obtain ⟨e, ie, hu, _⟩ := se_spec ht
  simp only [Rd] at hr
  obtain ⟨A, cap, e1, _⟩ := hr
  simp [execOp, ho, resolve, invoke, builtin, e1, Builtin.len_, run_underlying hu, goInt, pure]

theorem op_len_str {E : Env} {m : List (Nat × AV)} {o : Oper} {x : Operand} {t : TypeId} {d : Nat} {s : ByteArray} {c1 o1 : Bool}
    (ho : o.op = .call { callee := .builtin .len, args := #[x], argTypes := #[t] }) (hd : o.dst = some d) (hlt : d < E.nt) (ht : E.P.underlying t = some .string) (hx : opd 0 m x = some (.one (.v (.raw (.string s)) c1 o1))) :
    OpSt E m o (put m (3 * d) (.val (.one (.v (.raw (.int .i64 s.size)) false true)))) := by
  refine op_pure hd hlt rfl fun G a w h => ?_
  have hx' := (opd_raw h hx).1
  simp [execOp, ho, resolve, invoke, builtin, hx', Builtin.len_, run_underlying ht, goInt, pure]

/-! ### boxes -/
def isBp (d : Nat) : AC → Bool
  | .bp k _ => k == d
  | .bs k _ => k == d
  | _ => false
theorem isBp_ref {ac : AC} {d : Nat} (h : ac.ref d) : isBp d ac = true := by
  cases ac with
  | v d' c o => exact h.elim
  | bp k off => simp only [AC.ref] at h; simp [isBp, h]
  | bs k off => simp only [AC.ref] at h; simp [isBp, h]
def badKeys (d : Nat) : List (Nat × AV) → List Nat
  | [] => []
  | (κ, av) :: r => if κ = 3 * d ∨ κ = 3 * d + 1 ∨ av.acs.any (isBp d) = true then κ :: badKeys d r else badKeys d r
def delAll (m : List (Nat × AV)) : List Nat → List (Nat × AV)
  | [] => m
  | k :: ks => delAll (del m k) ks
/-- All that is known but of slot d, box d and pointers into it. -/
def forget (d : Nat) (m : List (Nat × AV)) : List (Nat × AV) := delAll m (badKeys d m)

theorem look_delAll (ks : List Nat) : ∀ (m : List (Nat × AV)) (κ : Nat), look (delAll m ks) κ = if κ ∈ ks then none else look m κ := by
  induction ks with
  | nil => intro m κ; simp [delAll]
  | cons k ks ih =>
    intro m κ
    simp only [delAll, ih, look_del, List.mem_cons]
    by_cases h1 : κ ∈ ks
    · simp [h1]
    · by_cases h2 : κ = k <;> simp [h1, h2]

theorem badKeys_spec (d κ : Nat) (av : AV) : ∀ (m : List (Nat × AV)), look m κ = some av → κ ∉ badKeys d m → κ ≠ 3 * d ∧ κ ≠ 3 * d + 1 ∧ av.acs.any (isBp d) = false := by
  intro m
  induction m with
  | nil => intro h; simp [look] at h
  | cons p r ih =>
    obtain ⟨a, x⟩ := p
    intro h hn
    simp only [look] at h
    simp only [badKeys] at hn
    split at h
    · rename_i he
      subst he
      obtain rfl : x = av := by simpa using h
      split at hn
      · simp at hn
      · rename_i hb
        simp only [not_or] at hb
        exact ⟨hb.1, hb.2.1, by simpa using hb.2.2⟩
    · refine ih h fun hm => hn ?_
      split
      · exact List.mem_cons_of_mem _ hm
      · exact hm

theorem look_forget {d κ : Nat} {av : AV} {m : List (Nat × AV)} (h : look (forget d m) κ = some av) : look m κ = some av ∧ κ ≠ 3 * d ∧ κ ≠ 3 * d + 1 ∧ av.acs.any (isBp d) = false := by
  unfold forget at h
  rw [look_delAll] at h
  split at h
  · simp at h
  · rename_i hn
    exact ⟨h, badKeys_spec d κ av m h hn⟩

/-- A new box. -/
theorem RelG.newBox {E : Env} {G : Gh} {m m' : List (Nat × AV)} {a : Act} {w : World} (h : RelG E G ⟨m⟩ a w) (d : Nat) (hd : d < E.nt) (hnp : E.np ≤ d) (acs : List AC) (t : TypeId) {vals : List Value} {S : Nat → Nat → Prop} {src : Nat → Option (Nat × Nat)}
    (ht : Taken G w m m' acs vals S src) (hst : ∀ ac ∈ acs, isBp d ac = false) :
    Rel E ⟨put (put (forget d m') (3 * d + 1) (.val (.agg acs))) (3 * d) (.val (.one (.bp d 0)))⟩ (a.put (some d) (.pointer (some ⟨w.heap.size, 0, none⟩))) (w.alloc (.cells vals.toArray t)) := by
  obtain ⟨h1, h2, h3, h4⟩ := ht.facts h
  have hfg : Le ⟨forget d m'⟩ ⟨m'⟩ := fun κ av hk => ⟨av, (look_forget hk).1, AVle.refl av⟩
  have h5 := h1.weaken hfg _ (fun _ _ _ => id) (fun _ _ _ _ _ _ _ _ => id)
  have hal : Below w.heap.size w (w.alloc (.cells vals.toArray t)) := (Below.refl _ w).alloc (Nat.le_refl _) _
  have h6 := h5.grow hal G.F (fun _ _ => id) (fun _ _ => .inl)
  have hnew : (w.alloc (.cells vals.toArray t)).heap[w.heap.size]? = some (.cells vals.toArray t (0, 0)) := heap_alloc_new w _
  have hval : ((List.range' 0 acs.length).map fun i => vals.getD i undef) = vals := by
    apply List.ext_getElem?
    intro i
    have := ht.len
    by_cases hi : i < vals.length
    · have hi' : i < acs.length := by omega
      simp [hi, hi', List.getD]
    · have hi' : ¬ i < acs.length := by omega
      simp [hi, hi']
  have hlt : ∀ k x, look m (3 * k + 1) = some x → G.bm k < w.heap.size := fun k x hx => by
    obtain ⟨cs, t', _, r1, _⟩ := h.boxes k x hx
    exact (Array.getElem?_eq_some_iff.1 r1).1
  have hup : ∀ {κ x}, look (forget d m') κ = some x → ∃ y, look m κ = some y := fun hx => ht.drop.lookbox (look_forget hx).1
  have hnb : ∀ (i : Nat) (ac : AC), acs[i]? = some ac → ∀ k, ac.ref k → k ≠ d := fun i ac hi k he hk => by
    have := hst ac (List.mem_of_getElem? hi)
    rw [isBp_ref (hk ▸ he)] at this; simp at this
  have h7 := h6.box d w.heap.size acs t (fun i => vals.getD i undef) (ownOf G src acs.length) (by rw [hval]; exact hnew) (fun o hf => absurd (h.fsz _ _ hf) (Nat.lt_irrefl _)) ⟨fun hk => absurd (Nat.lt_of_lt_of_le (E.hk _ hk) h.size) (Nat.lt_irrefl _), fun _ => h.size⟩ (fun hlt => absurd hlt (Nat.not_lt.2 hnp))
    (fun k x _ hx he => by obtain ⟨y, hy⟩ := hup hx; exact absurd (he ▸ hlt k y hy) (Nat.lt_irrefl _))
    (fun κ av hκ hk hon i ac hi hc hb => by
      have hr := h5.cells κ av hk hon i ac hi
      obtain ⟨wd, hcap⟩ := hr.sz hc
      exact absurd (hcap.block_lt hb) (Nat.lt_irrefl _))
    (fun κ av hκ hk i ac hi hrf => by
      have := (look_forget hk).2.2.2
      rw [List.any_eq_false] at this
      have := this _ (List.mem_of_getElem? hi)
      exact absurd (isBp_ref hrf) this)
    (fun i ac hi => (h2 i ac hi).mono (fun _ _ => id) (fun b o hf => hal.cell (p := ⟨b, o, none⟩) (h.fsz _ _ hf)) (fun k he => upd_ne _ _ _ _ (hnb i ac hi k he)) (fun _ => id)
      (fun hc b hb hlt' => ⟨hal.block _ hlt', fun _ => id⟩))
    (fun i ac hi hc b hb => by
      obtain ⟨⟨r1, r2⟩, r3, r4⟩ := h3 i ac hi hc b hb
      refine ⟨⟨r1, ?_, fun k x _ hx => ?_⟩, fun κ av' _ hk hon i' ac' hi' hc' => ?_, r4⟩
      · obtain ⟨wd, hcap⟩ := (h2 i ac hi).sz hc
        exact Nat.ne_of_lt (hcap.block_lt hb)
      · obtain ⟨y, hy⟩ := hup hx; exact r2 k y hy
      · exact r3 κ av' (look_forget hk).1 hon i' ac' hi' hc')
    (fun i b hb => by
      obtain ⟨r1, r2, r3, r4⟩ := h4 i b hb
      exact ⟨r1, by simp; omega, fun κ i' _ => r3 κ i', r4⟩)
  have h8 := h7.place d hd (.one (.bp d 0)) (.pointer (some ⟨w.heap.size, 0, none⟩)) (m' := put (forget d m') (3 * d + 1) (.val (.agg acs))) (vals := [.pointer (some ⟨w.heap.size, 0, none⟩)])
    (S := fun _ _ => False) (src := fun _ => none) (by
      have := Taken.bp (G := { G with own := upd (fun κ i b => G.own κ i b ∧ ¬ S κ i) (3 * d + 1) (ownOf G src acs.length), bm := upd G.bm d w.heap.size, val := upd G.val (3 * d + 1) (fun i => vals.getD i undef) })
        (w := w.alloc (.cells vals.toArray t)) (m := put (forget d m') (3 * d + 1) (.val (.agg acs))) d 0
      simpa [upd_same] using this) rfl
  exact h8
end Go.RF
