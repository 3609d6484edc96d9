/- A logic over the walk in which memory is hidden, part 22: regions in every order. -/
import Derived.Test.YtmahppdampmpfaaRF21
set_option linter.unusedVariables false
namespace Go.RF
open Go.RowKit (Below)

/-- The rest of a drawn region, in every order. -/
def ExA (E : Env) (ops : Array Oper) (Q : Exit → Mp → Prop) (fuel : Nat) (listed : Array Bool) (m : Mp) : Prop :=
  ∀ a w, Rel E ⟨m⟩ a w → wpAny E.P .any ops (fun e a' w' => ∃ m', Q e m' ∧ Rel E ⟨m'⟩ a' w') fuel listed a w

theorem ExA.one {E : Env} {ops : Array Oper} {Q : Exit → Mp → Prop} {fuel : Nat} {listed : Array Bool} {m m' : Mp} {o : Oper} (i : Nat) (ho : ops[i]? = some o) (hg : o.guard = none) (h : OpOK E m o m') (hk : ExA E ops Q fuel (listed.setIfInBounds i true) m')
    {a : Act} {w : World} (hr : Rel E ⟨m⟩ a w) : wpOp E.P ops (fun e a' w' => ∃ m', Q e m' ∧ Rel E ⟨m'⟩ a' w') i (wpAny E.P .any ops (fun e a' w' => ∃ m', Q e m' ∧ Rel E ⟨m'⟩ a' w') fuel (listed.setIfInBounds i true)) a w := by
  unfold wpOp
  rw [ho]
  simp only []
  rw [if_pos (by simp [Region.wanted, hg])]
  exact .inl (Oper.wp_mono (fun a' w' hr' => hk a' w' hr') (h a w _ hr))
theorem ExA.step1 {E : Env} {ops : Array Oper} {Q : Exit → Mp → Prop} {fuel : Nat} {listed : Array Bool} {m m' : Mp} {o : Oper} (i : Nat) (hrd : Region.ready .any ops listed = [i]) (ho : ops[i]? = some o) (hg : o.guard = none) (h : OpOK E m o m')
    (hk : ExA E ops Q fuel (listed.setIfInBounds i true) m') : ExA E ops Q (fuel + 1) listed m := by
  intro a w hr
  refine ⟨fun h0 => by rw [hrd] at h0; simp at h0, fun j hj => ?_⟩
  rw [hrd] at hj
  obtain rfl : j = i := by simpa using hj
  exact ExA.one j ho hg h hk hr
theorem ExA.step2 {E : Env} {ops : Array Oper} {Q : Exit → Mp → Prop} {fuel : Nat} {listed : Array Bool} {m m1 m2 : Mp} {o1 o2 : Oper} (i1 i2 : Nat) (hrd : Region.ready .any ops listed = [i1, i2]) (ho1 : ops[i1]? = some o1) (hg1 : o1.guard = none) (h1 : OpOK E m o1 m1)
    (ho2 : ops[i2]? = some o2) (hg2 : o2.guard = none) (h2 : OpOK E m o2 m2)
    (hk1 : ExA E ops Q fuel (listed.setIfInBounds i1 true) m1) (hk2 : ExA E ops Q fuel (listed.setIfInBounds i2 true) m2) : ExA E ops Q (fuel + 1) listed m := by
  intro a w hr
  refine ⟨fun h0 => by rw [hrd] at h0; simp at h0, fun j hj => ?_⟩
  rw [hrd] at hj
  simp only [List.mem_cons, List.not_mem_nil, or_false] at hj
  rcases hj with rfl | rfl
  · exact ExA.one j ho1 hg1 h1 hk1 hr
  · exact ExA.one j ho2 hg2 h2 hk2 hr
theorem ExA.done {E : Env} {ops : Array Oper} {Q : Exit → Mp → Prop} {listed : Array Bool} {m : Mp} (hrd : Region.ready .any ops listed = []) (h : Q .normal m) : ExA E ops Q 0 listed m := by
  intro a w hr
  exact ⟨hrd, m, h, hr⟩
theorem Wp.any {E : Env} {id n : Nat} {l : List Oper} {Q : Exit → Mp → Prop} {m m' : Mp} (kp : List Nat) (hx : E.P.follows .mixedOrders = true) (hn : l.length = n) (hm : EvM (trim kp m) m')
    (h : ExA E l.toArray Q n (Array.replicate n false) m') : Wp E (.region id l.toArray true) Q m := by
  intro a w hr
  refine wp_region_any hx ?_
  rw [← hm.eq] at h
  have := h a _ ((hr.weak (trim_le kp m)).drawn (w.drawn + 1))
  simpa [hn] using this

theorem OpK.st {E : Env} {o : Oper} {m m' : Mp} {P : Program} {nt d : Nat} (H : Hn) {p : Prop} (hP : E.P = P) (hnt : E.nt = nt) (hd : o.dst = some d) (hlt : d < nt)
    (h : Ev (stOp P H m d o.op) p m') (hp : p) : OpOK E m o m' := by
  subst hP; subst hnt
  exact (stOp_ok hd hlt h.eq hp).ok
theorem OpK.call {E : Env} {o : Oper} {m m1 m' : Mp} {P : Program} {nt f d : Nat} {fn : Func} {args : Array Operand} {tys : Array TypeId} {ins outs vs : List V}
    (hPC : PC P f (ins.map .val) outs []) (hf : P.funcs[f]? = some fn) (hP : E.P = P) (hnt : E.nt = nt) (ho : o.op = .call { callee := .value (.func f), args := args, argTypes := tys }) (hd : o.dst = some d) (hlt : d < nt)
    (hb : (fn.body.isNone || fn.name == "runtime.NumGoroutine") = false) (hlen : args.size = ins.length) (ha : Ev (acqA m (args.toList.zip ins)) vs m1) (hle : Vsle ins vs) (hnb : ∀ v ∈ outs, ∀ c ∈ v.acs, (dOf c).isSome = true)
    (hm : EvM (put m1 (3 * d) (avOf outs)) m') : OpOK E m o m' := by
  subst hP; subst hnt
  simp only [Bool.or_eq_false_iff] at hb
  rw [← hm.eq]
  exact op_call hPC ho hd hlt hf hb.1 hb.2 hlen ha.eq hle hnb

theorem ExL.onK {E : Env} {ops : Array Oper} {o : Oper} {r : List Oper} {Q : Exit → Mp → Prop} {m m' : Mp} {nt g t : Nat} {want c x b : Bool} (hnt : E.nt = nt) (hg : o.guard = some (g, want))
    (ht : (ops[g]?).bind (·.dst) = some t) (htl : t < nt) (hb : EvL (look m (3 * t)) b c x) (hbw : b = want) (h : OpOK E m o m') (hk : ExL E ops r Q m') : ExL E ops (o :: r) Q m := by
  subst hbw; subst hnt
  exact ExL.on hg ht htl hb.eq h hk
theorem OpK.callClo {E : Env} {o : Oper} {m m1 m' : Mp} {P : Program} {nt f d : Nat} {fn : Func} {x : Operand} {args : Array Operand} {tys : Array TypeId} {ins outs vs : List V} {caps : List D}
    (hPC : PC P f ((ins ++ caps.map fun d => V.one (dv d)).map .val) outs []) (hf : P.funcs[f]? = some fn) (hP : E.P = P) (hnt : E.nt = nt) (ho : o.op = .call { callee := .value x, args := args, argTypes := tys }) (hcl : EvF (opd 0 m x) f caps) (hd : o.dst = some d) (hlt : d < nt)
    (hb : (fn.body.isNone || fn.name == "runtime.NumGoroutine") = false) (hlen : args.size = ins.length) (ha : Ev (acqA m (args.toList.zip ins)) vs m1) (hle : Vsle ins vs) (hnb : ∀ v ∈ outs, ∀ c ∈ v.acs, (dOf c).isSome = true)
    (hm : EvM (put m1 (3 * d) (avOf outs)) m') : OpOK E m o m' := by
  subst hP; subst hnt
  simp only [Bool.or_eq_false_iff] at hb
  obtain ⟨c, oo, hcl⟩ := hcl.ex
  rw [← hm.eq]
  exact op_callClo hPC ho hd hlt hcl hf hb.1 hb.2 hlen ha.eq hle hnb
end Go.RF
