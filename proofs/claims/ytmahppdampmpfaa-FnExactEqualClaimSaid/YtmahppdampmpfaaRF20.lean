/- A logic over the walk in which memory is hidden, part 20: operations that change memory. -/
import Derived.Test.YtmahppdampmpfaaRF19
set_option linter.unusedVariables false
namespace Go.RF
open Go.RowKit (Below)

inductive Ev {α β : Type _} : Option (α × β) → α → β → Prop
  | mk (a : α) (b : β) : Ev (some (a, b)) a b
theorem Ev.eq {α β : Type _} {x : Option (α × β)} {a : α} {b : β} (h : Ev x a b) : x = some (a, b) := by cases h; rfl

theorem ExL.st {E : Env} {ops : Array Oper} {o : Oper} {r : List Oper} {Q : Exit → Mp → Prop} {m m' : Mp} {P : Program} {nt d : Nat} (H : Hn) {p : Prop} (hP : E.P = P) (hnt : E.nt = nt) (hg : o.guard = none) (hd : o.dst = some d) (hlt : d < nt)
    (h : Ev (stOp P H m d o.op) p m') (hp : p) (hk : ExL E ops r Q m') : ExL E ops (o :: r) Q m := by
  subst hP; subst hnt
  exact ExL.go hg (stOp_ok hd hlt h.eq hp).ok hk
theorem ExL.stOn {E : Env} {ops : Array Oper} {o : Oper} {r : List Oper} {Q : Exit → Mp → Prop} {m m' : Mp} {P : Program} {nt d : Nat} (H : Hn) {p : Prop} {g t : Nat} {want c x : Bool} (hP : E.P = P) (hnt : E.nt = nt) (hg : o.guard = some (g, want)) (hd : o.dst = some d) (hlt : d < nt)
    (ht : (ops[g]?).bind (·.dst) = some t) (htl : t < nt) (hb : look m (3 * t) = some (.val (.one (.v (.raw (.bool want)) c x))))
    (h : Ev (stOp P H m d o.op) p m') (hp : p) (hk : ExL E ops r Q m') : ExL E ops (o :: r) Q m := by
  subst hP; subst hnt
  exact ExL.on hg ht htl hb (stOp_ok hd hlt h.eq hp).ok hk
theorem ExS.st {E : Env} {ops : Array Oper} {o : Oper} {r : List Oper} {Q : Mp → Prop} {m m' : Mp} {P : Program} {nt d : Nat} (H : Hn) {p : Prop} (hP : E.P = P) (hnt : E.nt = nt) (hg : o.guard = none) (hd : o.dst = some d) (hlt : d < nt)
    (h : Ev (stOp P H m d o.op) p m') (hp : p) (hk : ExS E ops r Q m') : ExS E ops (o :: r) Q m := by
  subst hP; subst hnt
  exact ExS.go hg (stOp_ok hd hlt h.eq hp) hk

/-! ### what changes memory -/
def efBox (np : Nat) (d : Nat) : Option (V × Mp) → Option (Prop × Mp)
  | some (v, m') => if np ≤ d ∧ v.acs.any (isBp d) = false then some (True, put (put (forget d m') (3 * d + 1) (.val (.agg v.acs))) (3 * d) (.val (.one (.bp d 0)))) else none
  | none => none
def efAlloc (np : Nat) (m : Mp) (d : Nat) : Option (List AC) → Option (Prop × Mp)
  | some zs => if np ≤ d then some (True, put (put (forget d m) (3 * d + 1) (.val (.agg zs))) (3 * d) (.val (.one (.bp d 0)))) else none
  | none => none
def efStore3 (k off n : Nat) (v : V) (m' : Mp) : Option AV → Option (Prop × Mp)
  | some (.val (.agg cs)) => if v.acs.length = n ∧ off + n ≤ cs.length then some (True, put m' (3 * k + 1) (.val (.agg (spl off v.acs cs)))) else none
  | _ => none
def efStore2 (k off n : Nat) : Option (V × Mp) → Option (Prop × Mp)
  | some (v, m') => efStore3 k off n v m' (look m' (3 * k + 1))
  | none => none
def wdBox (off : Nat) : Option AV → Nat
  | some (.val (.agg cs)) => wdAt cs off
  | _ => 0
def efStore (m : Mp) (y : Operand) : Option (Nat × Bool) → Option V → Option (Prop × Mp)
  | some (n, _), some (.one (.bp k off)) => efStore2 k off n (acq true (wdBox off (look m (3 * k + 1))) m y)
  | _, _ => none
/-- The element type of a slice type. -/
def ue (P : Program) (t : TypeId) : Option TypeId :=
  match P.underlying t with
  | some (.slice e) => some e
  | _ => none
def efMake (np : Nat) (m : Mp) (d : Nat) : Option (Nat × Nat) → Option (List AC) → Option V → Option V → Option (Prop × Mp)
  | some (wd, by_), some zs, some (.one (.v (.raw (.int _ n)) _ _)), some (.one (.v (.raw (.int _ n')) _ _)) =>
    if np ≤ d ∧ zs.length = wd ∧ 0 < wd then some (n' = n ∧ 0 ≤ n ∧ (by_ : Int) * n ≤ 281474976710656 ∧ n ≤ 9223372036854775807,
      put (put (forget d m) (3 * d + 1) (.val (.agg ((List.replicate n.toNat zs).flatten)))) (3 * d) (.val (.one (.bs d n.toNat)))) else none
  | _, _, _, _ => none
def efOp (P : Program) (np : Nat) (H : Hn) (m : Mp) : Option Nat → Op → Option (Prop × Mp)
  | some d, .alloc t => efAlloc np m d (zi P t)
  | some d, .box t x => efBox np d (acq true (H.w d) m x)
  | none, .store t x y => efStore m y (ty P t) (opd 0 m x)
  | some d, .makeSlice t x y => efMake np m d (se P t) ((ue P t).bind fun e => zi P e) (opd 0 m x) (opd 0 m y)
  | _, _ => none

theorem efOp_ok {E : Env} {H : Hn} {m m' : Mp} {o : Oper} {p : Prop} (hlt : ∀ d, o.dst = some d → d < E.nt) (h : efOp E.P E.np H m o.dst o.op = some (p, m')) (hp : p) : OpOK E m o m' := by
  unfold efOp at h
  split at h
  · rename_i d t hd ho
    unfold efAlloc at h
    split at h
    · rename_i zs hz
      split at h
      · rename_i hnp
        simp only [Option.some.injEq, Prod.mk.injEq] at h
        obtain ⟨_, rfl⟩ := h
        exact op_alloc ho hd (hlt d hd) hnp hz
      · simp at h
    · simp at h
  · rename_i d t x hd ho
    unfold efBox at h
    split at h
    · rename_i v m1 hx
      split at h
      · rename_i hc
        simp only [Option.some.injEq, Prod.mk.injEq] at h
        obtain ⟨_, rfl⟩ := h
        exact op_box ho hd (hlt d hd) hc.1 hx hc.2
      · simp at h
    · simp at h
  · rename_i t x y hd ho
    unfold efStore at h
    split at h
    · rename_i n g k off ht hx
      unfold efStore2 at h
      split at h
      · rename_i v m1 hy
        unfold efStore3 at h
        split at h
        · rename_i cs hb
          split at h
          · rename_i hc
            simp only [Option.some.injEq, Prod.mk.injEq] at h
            obtain ⟨_, rfl⟩ := h
            exact op_store_box ho hd hx ht hy hc.1 hb hc.2
          · simp at h
        · simp at h
      · simp at h
    · simp at h
  · rename_i d t x y hd ho
    unfold efMake at h
    split at h
    · rename_i hs hz hx hy
      split at h
      · rename_i hc
        simp only [Option.some.injEq, Prod.mk.injEq] at h
        obtain ⟨rfl, rfl⟩ := h
        obtain ⟨e, he, hz⟩ := Option.bind_eq_some_iff.1 hz
        have hte : E.P.underlying t = some (.slice e) := by
          unfold ue at he
          split at he
          · rename_i e' hu; rw [hu]; simpa using he
          · simp at he
        obtain ⟨rfl, p2, p3, p4⟩ := hp
        exact op_make ho hd (hlt d hd) hc.1 hs hte hz hc.2.1 hc.2.2 hx hy p2 p3 p4
      · simp at h
    · simp at h
  · simp at h

theorem ExL.ef {E : Env} {ops : Array Oper} {o : Oper} {r : List Oper} {Q : Exit → Mp → Prop} {m m' : Mp} {P : Program} {nt np : Nat} (H : Hn) {p : Prop} (hP : E.P = P) (hnt : E.nt = nt) (hnp : E.np = np) (hg : o.guard = none)
    (hlt : o.dst.all (· < nt) = true) (h : Ev (efOp P np H m o.dst o.op) p m') (hp : p) (hk : ExL E ops r Q m') : ExL E ops (o :: r) Q m := by
  subst hP; subst hnt; subst hnp
  exact ExL.go hg (efOp_ok (fun d hd => by rw [hd] at hlt; simpa using hlt) h.eq hp) hk

/-- A call of a function whose contract is known. -/
theorem ExL.call {E : Env} {ops : Array Oper} {o : Oper} {r : List Oper} {Q : Exit → Mp → Prop} {m m1 : Mp} {P : Program} {nt f d : Nat} {fn : Func} {args : Array Operand} {tys : Array TypeId} {ins outs vs : List V}
    (hPC : PC P f (ins.map .val) outs []) (hf : P.funcs[f]? = some fn) (hP : E.P = P) (hnt : E.nt = nt) (hg : o.guard = none) (ho : o.op = .call { callee := .value (.func f), args := args, argTypes := tys }) (hd : o.dst = some d) (hlt : d < nt)
    (hb : (fn.body.isNone || fn.name == "runtime.NumGoroutine") = false) (hlen : args.size = ins.length) (ha : Ev (acqA m (args.toList.zip ins)) vs m1) (hle : Vsle ins vs) (hnb : ∀ v ∈ outs, ∀ c ∈ v.acs, (dOf c).isSome = true)
    (hk : ExL E ops r Q (put m1 (3 * d) (avOf outs))) : ExL E ops (o :: r) Q m := by
  subst hP; subst hnt
  simp only [Bool.or_eq_false_iff] at hb
  exact ExL.go hg (op_call hPC ho hd hlt hf hb.1 hb.2 hlen ha.eq hle hnb) hk

inductive EvM : Mp → Mp → Prop
  | mk (m : Mp) : EvM m m
theorem EvM.eq {m m' : Mp} (h : EvM m m') : m = m' := by cases h; rfl
inductive EvC : Option V → Bool → Prop
  | mk (b c o : Bool) : EvC (some (.one (.v (.raw (.bool b)) c o))) b
theorem EvC.ex {x : Option V} {b : Bool} (h : EvC x b) : ∃ c o, x = some (.one (.v (.raw (.bool b)) c o)) := by cases h; exact ⟨_, _, rfl⟩
inductive EvL : Option AV → Bool → Bool → Bool → Prop
  | mk (b c o : Bool) : EvL (some (.val (.one (.v (.raw (.bool b)) c o)))) b c o
theorem EvL.eq {x : Option AV} {b c o : Bool} (h : EvL x b c o) : x = some (.val (.one (.v (.raw (.bool b)) c o))) := by cases h; rfl

theorem Wp.regionE {E : Env} {id : Nat} {l : List Oper} {Q : Exit → Mp → Prop} {m m' : Mp} (kp : List Nat) (hm : EvM (trim kp m) m') (h : ExL E l.toArray l Q m') : Wp E (.region id l.toArray false) Q m :=
  Wp.region kp (by rw [hm.eq]; exact h)
theorem Wp.drawE {E : Env} {id : Nat} {l : List Oper} {Q : Exit → Mp → Prop} {m m' : Mp} (kp : List Nat) (n : Nat) (hx : E.P.follows .mixedOrders = true) (hB : Region.lexTailB .any l.toArray n = true) (hm : EvM (trim kp m) m')
    (h : ExS E l.toArray (l.take n) (ExL E l.toArray (l.drop n) Q) m') : Wp E (.region id l.toArray true) Q m :=
  Wp.draw kp n hx hB (by rw [hm.eq]; exact h)
theorem Wp.condE {E : Env} {c : Operand} {x y : Code} {Q : Exit → Mp → Prop} {m : Mp} {t : Bool} (hc : EvC (opd 0 m c) t)
    (h1 : t = true → Wp E x Q m) (h2 : t = false → Wp E y Q m) : Wp E (.cond c x y) Q m := by
  obtain ⟨cc, oo, hc⟩ := hc.ex
  exact Wp.cond hc h1 h2
theorem retQ.mk {P : Program} {rs : List ResultVar} {outs vs : List V} {m m' : Mp} (h : Ev (acqRs P m rs) vs m') (hle : Vsle outs vs) : retQ P rs outs .ret m := ⟨vs, m', h.eq, hle⟩
theorem ExL.splitE {E : Env} {ops : Array Oper} {r : List Oper} {Q : Exit → Mp → Prop} {m m1 m2 : Mp} (t : Nat) {b c o : Bool} (hb : EvL (look m (3 * t)) b c o) (hm1 : EvM (put m (3 * t) (.val (.one (.v (.raw (.bool true)) c o)))) m1) (hm2 : EvM (put m (3 * t) (.val (.one (.v (.raw (.bool false)) c o)))) m2)
    (h1 : b = true → ExL E ops r Q m1) (h2 : b = false → ExL E ops r Q m2) : ExL E ops r Q m :=
  ExL.split t hb.eq (fun h => by rw [hm1.eq]; exact h1 h) (fun h => by rw [hm2.eq]; exact h2 h)
theorem ExL.offE {E : Env} {ops : Array Oper} {o : Oper} {r : List Oper} {Q : Exit → Mp → Prop} {m m1 : Mp} {nt g t d : Nat} {want c x b : Bool} (hnt : E.nt = nt) (hg : o.guard = some (g, want)) (ht : (ops[g]?).bind (·.dst) = some t) (hlt : t < nt)
    (hb : EvL (look m (3 * t)) b c x) (hbw : b = !want) (hd : o.dst = some d) (hdl : d < nt) (hm : EvM (put m (3 * d) (.cnd False (.one (.bp 0 0)))) m1) (hk : ExL E ops r Q m1) : ExL E ops (o :: r) Q m := by
  subst hnt; subst hbw
  exact ExL.off hg ht hlt hb.eq hd hdl (by rw [hm.eq]; exact hk)
theorem ExL.stOnE {E : Env} {ops : Array Oper} {o : Oper} {r : List Oper} {Q : Exit → Mp → Prop} {m m' : Mp} {P : Program} {nt d : Nat} (H : Hn) {p : Prop} {g t : Nat} {want c x b : Bool} (hP : E.P = P) (hnt : E.nt = nt) (hg : o.guard = some (g, want)) (hd : o.dst = some d) (hlt : d < nt)
    (ht : (ops[g]?).bind (·.dst) = some t) (htl : t < nt) (hb : EvL (look m (3 * t)) b c x) (hbw : b = want)
    (h : Ev (stOp P H m d o.op) p m') (hp : p) (hk : ExL E ops r Q m') : ExL E ops (o :: r) Q m := by
  subst hbw
  exact ExL.stOn H hP hnt hg hd hlt ht htl hb.eq h hp hk

theorem any_dv (d : Nat) (ds : List D) : (ds.map dv).any (isBp d) = false := by
  induction ds with
  | nil => rfl
  | cons x ds ih =>
    rw [List.map_cons, List.any_cons, ih]
    cases x <;> rfl
theorem isBp_dv (d : Nat) (x : D) : isBp d (dv x) = false := by cases x <;> rfl

/-- Literal states, place by place. -/
def LeL : Mp → Mp → Prop
  | [], _ => True
  | (κ, av') :: r, m => (match look m κ with | some av => AVle av' av | none => False) ∧ LeL r m
theorem LeL.le {m' m : Mp} (h : LeL m' m) : Le ⟨m'⟩ ⟨m⟩ := by
  intro κ av' hk
  induction m' with
  | nil => simp [look] at hk
  | cons p r ih =>
    obtain ⟨k, x⟩ := p
    simp only [LeL] at h
    simp only [look] at hk
    split at hk
    · rename_i he; subst he
      obtain rfl : x = av' := by simpa using hk
      have h1 := h.1
      split at h1
      · rename_i av hl; exact ⟨av, hl, h1⟩
      · exact h1.elim
    · exact ih h.2 hk
end Go.RF
