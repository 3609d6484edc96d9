/- A logic over the walk in which memory is hidden, part 21: boxes that freeze, function values. -/
import Derived.Test.YtmahppdampmpfaaRF20
set_option linter.unusedVariables false
namespace Go.RF
open Go.RowKit (Below)

theorem Rel.freezeBox {E : Env} {m : Mp} {a : Act} {w : World} (s k n wd : Nat) {cs : List AC} {ds : List D} (hs : look m (3 * s) = some (.val (.one (.bs k n)))) (hb : look m (3 * k + 1) = some (.val (.agg cs)))
    (hds : dsOf cs = some ds) (hl : cs.length = n * wd) (hmax : n ≤ maxLen) (hnp : E.np ≤ k) : Rel E ⟨m⟩ a w → Rel E ⟨put (forget k m) (3 * s) (.val (.one (.v (.sl wd (chunk wd n ds)) true false)))⟩ a w := by
  rintro ⟨G, h⟩
  obtain ⟨cs', t, he, r1, r2, r3⟩ := h.boxes k _ hb
  obtain rfl : cs = cs' := by simpa using he
  have hfg : Le ⟨forget k m⟩ ⟨m⟩ := fun κ av hk => ⟨av, (look_forget hk).1, AVle.refl av⟩
  have h5 := h.weaken hfg _ (fun _ _ _ => id) (fun _ _ _ _ _ _ _ _ => id)
  have hbx : ∀ k' x, look (forget k m) (3 * k' + 1) = some x → G.bm k' ≠ G.bm k := fun k' x hx hbm => by
    have h1 := look_forget hx
    have := h.inj k' k _ _ h1.1 hb hbm
    exact h1.2.2.1 (by omega)
  have h6 := h5.freeze (G.bm k) (fun b o => G.F b o ∨ (b = G.bm k ∧ o < n * wd)) (fun _ _ => .inl) (fun b o hf => hf.imp id (fun h => h.1)) (Array.getElem?_eq_some_iff.1 r1).1 (.inl (r3.2 hnp)) hbx (fun κ av hk hon i ac hi hc hsp => by
    obtain ⟨e1, _⟩ := look_forget hk
    exact (h.capk κ av e1 hon i ac hi hc _ hsp).2 k _ hb rfl)
  have hsv := h.slots s _ hs trivial
  have hsc := h.cells (3 * s) _ hs trivial 0 _ rfl
  simp only [AVSh, VSh] at hsv
  simp only [ACR] at hsc
  rw [hsc] at hsv
  let vals := (List.range' 0 cs.length).map (G.val (3 * k + 1))
  have hvl : vals.length = cs.length := by simp [vals]
  obtain ⟨B, q1, _⟩ := rdl_of (own := fun i => G.own (3 * k + 1) i) (vals := vals) hvl (fun i ac hi => by
    have := h.cells (3 * k + 1) _ hb trivial i ac hi
    have hlt : i < cs.length := (List.getElem?_eq_some_iff.1 hi).1
    have e : vals.getD i undef = G.val (3 * k + 1) i := by simp [vals, List.getD, hlt]
    rw [e]; exact this) hds
  have q1' : RdL w (fun b o => G.F b o ∨ (b = G.bm k ∧ o < n * wd)) ds vals B := RdL.mono (fun _ _ => .inl) (fun _ _ _ => rfl) _ _ _ q1
  have hdl : ds.length = n * wd := by have := RdL.length q1; omega
  obtain ⟨q2, q3, q4⟩ := rows_of n q1' hdl
  refine ⟨_, h6.key (a' := a) (3 * s) (fun k => by omega) (.val (.one (.v (.sl wd (chunk wd n ds)) true false))) (fun _ => .slice (some ⟨G.bm k, 0, none⟩) n n) (fun _ _ => False) h6.nt h6.dfs (fun _ _ => rfl) (fun s' he _ => ?_) (fun _ i ac hi => ?_)
    (fun _ i ac hi hc b hb' => ?_) (fun _ _ h => h.elim)⟩
  · obtain rfl : s' = s := by omega
    exact hsv
  · cases i with
    | succ i => simp [AV.acs, V.acs] at hi
    | zero =>
      obtain rfl : _ = ac := by simpa [AV.acs, V.acs] using hi
      have hrd : ∃ B, Rd w (fun b o => G.F b o ∨ (b = G.bm k ∧ o < n * wd)) (.sl wd (chunk wd n ds)) (.slice (some ⟨G.bm k, 0, none⟩) n n) B := by
        by_cases hn : n = 0
        · subst hn
          exact ⟨[], by simp only [Rd]; exact ⟨some ⟨G.bm k, 0, none⟩, 0, by simp [chunk], by simp [chunk], Nat.zero_le _, q3, .inl (by simp [chunk])⟩⟩
        · refine ⟨G.bm k :: B, ?_⟩
          simp only [Rd]
          refine ⟨some ⟨G.bm k, 0, none⟩, n, by rw [q4], by omega, hmax, q3, .inr ⟨G.bm k, 0, vals, B, rfl, rfl, fun j u hj => ?_, q2⟩⟩
          have hjl : j < vals.length := (List.getElem?_eq_some_iff.1 hj).1
          refine ⟨?_, .inr ⟨rfl, by omega⟩⟩
          rw [cell_of_row w _ _ _ t (0, 0) r1, Nat.zero_add]
          simpa [vals] using hj
      obtain ⟨B', hrd⟩ := hrd
      exact ⟨B', hrd, fun h => by simp at h, fun _ => ⟨wd, _, rfl, some ⟨G.bm k, 0, none⟩, n, n, rfl, Nat.le_refl _, .inl rfl⟩⟩
  · cases i with
    | succ i => simp [AV.acs, V.acs] at hi
    | zero => simp [spareB] at hb'

theorem Wp.freeze {E : Env} {c : Code} {Q : Exit → Mp → Prop} {m m' : Mp} {cs : List AC} {ds : List D} {np : Nat} (s k n wd : Nat) (hnp : E.np = np) (hk : np ≤ k) (hs : look m (3 * s) = some (.val (.one (.bs k n)))) (hb : look m (3 * k + 1) = some (.val (.agg cs)))
    (hds : dsOf cs = some ds) (hl : cs.length = n * wd) (hmax : n ≤ maxLen) (hm : EvM (put (forget k m) (3 * s) (.val (.one (.v (.sl wd (chunk wd n ds)) true false)))) m') (h : Wp E c Q m') : Wp E c Q m := by
  rw [← hm.eq] at h
  exact fun a w hr => h a w (hr.freezeBox s k n wd hs hb hds hl hmax (by omega))

/-- A box that is never written again: the pointer to it becomes data. -/
theorem Rel.freezePtr {E : Env} {m : Mp} {a : Act} {w : World} (s k : Nat) {cs : List AC} {ds : List D} (hs : look m (3 * s) = some (.val (.one (.bp k 0)))) (hb : look m (3 * k + 1) = some (.val (.agg cs)))
    (hds : dsOf cs = some ds) (hnp : E.np ≤ k) : Rel E ⟨m⟩ a w → Rel E ⟨put (forget k m) (3 * s) (.val (.one (.v (.ptr ds) false false)))⟩ a w := by
  rintro ⟨G, h⟩
  obtain ⟨cs', t, he, r1, r2, r3⟩ := h.boxes k _ hb
  obtain rfl : cs = cs' := by simpa using he
  have hfg : Le ⟨forget k m⟩ ⟨m⟩ := fun κ av hk => ⟨av, (look_forget hk).1, AVle.refl av⟩
  have h5 := h.weaken hfg _ (fun _ _ _ => id) (fun _ _ _ _ _ _ _ _ => id)
  have hbx : ∀ k' x, look (forget k m) (3 * k' + 1) = some x → G.bm k' ≠ G.bm k := fun k' x hx hbm => by
    have h1 := look_forget hx
    have := h.inj k' k _ _ h1.1 hb hbm
    exact h1.2.2.1 (by omega)
  have h6 := h5.freeze (G.bm k) (fun b o => G.F b o ∨ (b = G.bm k ∧ o < cs.length)) (fun _ _ => .inl) (fun b o hf => hf.imp id (fun h => h.1)) (Array.getElem?_eq_some_iff.1 r1).1 (.inl (r3.2 hnp)) hbx (fun κ av hk hon i ac hi hc hsp => by
    obtain ⟨e1, _⟩ := look_forget hk
    exact (h.capk κ av e1 hon i ac hi hc _ hsp).2 k _ hb rfl)
  have hsv := h.slots s _ hs trivial
  have hsc := h.cells (3 * s) _ hs trivial 0 _ rfl
  simp only [AVSh, VSh] at hsv
  simp only [ACR] at hsc
  rw [hsc] at hsv
  let vals := (List.range' 0 cs.length).map (G.val (3 * k + 1))
  have hvl : vals.length = cs.length := by simp [vals]
  obtain ⟨B, q1, _⟩ := rdl_of (own := fun i => G.own (3 * k + 1) i) (vals := vals) hvl (fun i ac hi => by
    have := h.cells (3 * k + 1) _ hb trivial i ac hi
    have hlt : i < cs.length := (List.getElem?_eq_some_iff.1 hi).1
    have e : vals.getD i undef = G.val (3 * k + 1) i := by simp [vals, List.getD, hlt]
    rw [e]; exact this) hds
  have q1' : RdL w (fun b o => G.F b o ∨ (b = G.bm k ∧ o < cs.length)) ds vals B := RdL.mono (fun _ _ => .inl) (fun _ _ _ => rfl) _ _ _ q1
  refine ⟨_, h6.key (a' := a) (3 * s) (fun k => by omega) (.val (.one (.v (.ptr ds) false false))) (fun _ => .pointer (some ⟨G.bm k, 0, none⟩)) (fun _ _ => False) h6.nt h6.dfs (fun _ _ => rfl) (fun s' he _ => ?_) (fun _ i ac hi => ?_)
    (fun _ i ac hi hc b hb' => ?_) (fun _ _ h => h.elim)⟩
  · obtain rfl : s' = s := by omega
    exact hsv
  · cases i with
    | succ i => simp [AV.acs, V.acs] at hi
    | zero =>
      obtain rfl : _ = ac := by simpa [AV.acs, V.acs] using hi
      refine ⟨B, ?_, fun h => by simp at h, fun h => by simp at h⟩
      simp only [Rd]
      refine ⟨G.bm k, 0, vals, rfl, fun j u hj => ?_, q1'⟩
      have hjl : j < vals.length := (List.getElem?_eq_some_iff.1 hj).1
      refine ⟨?_, .inr ⟨rfl, by omega⟩⟩
      rw [cell_of_row w _ _ _ t (0, 0) r1, Nat.zero_add]
      simpa [vals] using hj
  · cases i with
    | succ i => simp [AV.acs, V.acs] at hi
    | zero => simp [spareB] at hb'

theorem ExL.ghost {E : Env} {ops : Array Oper} {r : List Oper} {Q : Exit → Mp → Prop} {m m' : Mp} (h : ∀ a w, Rel E ⟨m⟩ a w → Rel E ⟨m'⟩ a w) (hk : ExL E ops r Q m') : ExL E ops r Q m :=
  fun a w hr => hk a w (h a w hr)
theorem ExL.freezePtr {E : Env} {ops : Array Oper} {r : List Oper} {Q : Exit → Mp → Prop} {m m' : Mp} {cs : List AC} {ds : List D} {np : Nat} (s k : Nat) (hnp : E.np = np) (hk : np ≤ k) (hs : look m (3 * s) = some (.val (.one (.bp k 0)))) (hb : look m (3 * k + 1) = some (.val (.agg cs)))
    (hds : dsOf cs = some ds) (hm : EvM (put (forget k m) (3 * s) (.val (.one (.v (.ptr ds) false false)))) m') (h : ExL E ops r Q m') : ExL E ops r Q m := by
  rw [← hm.eq] at h
  exact ExL.ghost (fun a w hr => hr.freezePtr s k hs hb hds (by omega)) h

/-- The captured operands' data. -/
def capDs (m : Mp) : List Operand → Option (List D)
  | [] => some []
  | x :: xs => match opd 0 m x, capDs m xs with
    | some (.one (.v d _ _)), some ds => some (d :: ds)
    | _, _ => none
theorem capDs_ok {E : Env} {G : Gh} {m : Mp} {a : Act} {w : World} (h : RelG E G ⟨m⟩ a w) : ∀ (xs : List Operand) {ds : List D}, capDs m xs = some ds → ∃ B, RdL w G.F ds (xs.map a.eval) B
  | [], ds, hx => by
    obtain rfl : [] = ds := by simpa [capDs] using hx
    exact ⟨[], by simp [RdL]⟩
  | x :: xs, ds, hx => by
    simp only [capDs] at hx
    split at hx
    · rename_i d _ _ ds' ho hd
      obtain rfl : d :: ds' = ds := by simpa using hx
      obtain ⟨val, own, hs, hc⟩ := opd_ok h ho
      obtain ⟨B1, h1, _⟩ := hc 0 _ rfl
      obtain ⟨B2, h2⟩ := capDs_ok h xs hd
      have hs' : a.eval x = val 0 := hs
      exact ⟨B1 ++ B2, by simp only [RdL, List.map_cons]; exact ⟨_, _, B1, B2, rfl, rfl, by rw [hs']; exact h1, h2⟩⟩
    · simp at hx

theorem op_makeFunc {E : Env} {m : Mp} {o : Oper} {f : FuncId} {caps : Array Operand} {d : Nat} {ds : List D} (ho : o.op = .makeFunc (.func f) #[] caps) (hd : o.dst = some d) (hlt : d < E.nt) (hc : capDs m caps.toList = some ds) :
    OpSt E m o (put m (3 * d) (.val (.one (.v (.fn f ds) false false)))) := by
  intro a w ⟨G, h⟩
  obtain ⟨B, hr⟩ := capDs_ok h _ hc
  refine ⟨.func (.func f) #[] (caps.map a.eval), by simp [execOp, ho, Instr.makeFunc, pure], ?_⟩
  rw [hd]
  refine h.place d hlt _ _ (Taken.dat (d := .fn f ds) (B := B) ?_) rfl
  simp only [Rd]
  exact ⟨caps.toList.map a.eval, by congr 1; apply Array.ext'; simp, hr⟩

inductive EvD : Option (List D) → List D → Prop
  | mk (ds : List D) : EvD (some ds) ds
theorem EvD.eq {x : Option (List D)} {ds : List D} (h : EvD x ds) : x = some ds := by cases h; rfl
inductive EvF : Option V → FuncId → List D → Prop
  | mk (f : FuncId) (ds : List D) (c o : Bool) : EvF (some (.one (.v (.fn f ds) c o))) f ds
theorem EvF.ex {x : Option V} {f : FuncId} {ds : List D} (h : EvF x f ds) : ∃ c o, x = some (.one (.v (.fn f ds) c o)) := by cases h; exact ⟨_, _, rfl⟩

theorem ExL.mkFunc {E : Env} {ops : Array Oper} {o : Oper} {r : List Oper} {Q : Exit → Mp → Prop} {m m' : Mp} {nt d : Nat} {f : FuncId} {caps : Array Operand} {ds : List D} (hnt : E.nt = nt) (hg : o.guard = none) (hd : o.dst = some d) (hlt : d < nt)
    (ho : o.op = .makeFunc (.func f) #[] caps) (hc : EvD (capDs m caps.toList) ds) (hm : EvM (put m (3 * d) (.val (.one (.v (.fn f ds) false false)))) m') (hk : ExL E ops r Q m') : ExL E ops (o :: r) Q m := by
  subst hnt
  exact ExL.go hg (op_makeFunc ho hd hlt hc.eq).ok (by rw [hm.eq]; exact hk)

theorem ExL.callClo {E : Env} {ops : Array Oper} {o : Oper} {r : List Oper} {Q : Exit → Mp → Prop} {m m1 : Mp} {P : Program} {nt f d : Nat} {fn : Func} {x : Operand} {args : Array Operand} {tys : Array TypeId} {ins outs vs : List V} {caps : List D}
    (hPC : PC P f ((ins ++ caps.map fun d => V.one (dv d)).map .val) outs []) (hf : P.funcs[f]? = some fn) (hP : E.P = P) (hnt : E.nt = nt) (hg : o.guard = none) (ho : o.op = .call { callee := .value x, args := args, argTypes := tys }) (hcl : EvF (opd 0 m x) f caps) (hd : o.dst = some d) (hlt : d < nt)
    (hb : (fn.body.isNone || fn.name == "runtime.NumGoroutine") = false) (hlen : args.size = ins.length) (ha : Ev (acqA m (args.toList.zip ins)) vs m1) (hle : Vsle ins vs) (hnb : ∀ v ∈ outs, ∀ c ∈ v.acs, (dOf c).isSome = true)
    (hk : ExL E ops r Q (put m1 (3 * d) (avOf outs))) : ExL E ops (o :: r) Q m := by
  subst hP; subst hnt
  simp only [Bool.or_eq_false_iff] at hb
  obtain ⟨c, oo, hcl⟩ := hcl.ex
  exact ExL.go hg (op_callClo hPC ho hd hlt hcl hf hb.1 hb.2 hlen ha.eq hle hnb) hk
end Go.RF
