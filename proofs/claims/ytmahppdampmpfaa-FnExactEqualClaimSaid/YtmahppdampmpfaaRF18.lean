/- A logic over the walk in which memory is hidden, part 18: one operation that changes nothing. -/
import Derived.Test.YtmahppdampmpfaaRF17
import Derived.StillTail
set_option linter.unusedVariables false
namespace Go.RF
open Go.RowKit (Below)

/-- Hints: slots that take the rights of what they read; widths for nil. -/
structure Hn where
  mv : List Nat
  wd : List (Nat × Nat)
def Hn.tk (H : Hn) (d : Nat) : Bool := H.mv.contains d
def Hn.w (H : Hn) (d : Nat) : Nat := (look H.wd d).getD 0

def rb (v : Value) : AV := .val (.one (.v (.raw v) false true))

def stMove (m : Mp) (d : Nat) : Option (V × Mp) → Option (Prop × Mp)
  | some (v, m') => some (True, put m' (3 * d) (.val v))
  | none => none
def stLoad (P : Program) (tk : Bool) (m : Mp) (d : Nat) : Option (Nat × Bool) → Option V → Option (Prop × Mp)
  | some (n, g), some (.one (.bp k off)) => if g = true ∨ n = 1 then stMove m d (acqB tk g n m k off) else none
  | some (n, g), some (.one (.v (.ptr ds) _ _)) => if g = true ∨ n = 1 then some (n ≤ ds.length, put m (3 * d) (.val (if g then .agg ((ds.take n).map dv) else .one (dv (ds.getD 0 default))))) else none
  | _, _ => none
def stField (m : Mp) (d : Nat) : Option Nat → Option V → Option (Prop × Mp)
  | some n, some (.one (.bp k off)) => some (True, put m (3 * d) (.val (.one (.bp k (off + n)))))
  | some n, some (.one (.v (.ptr ds) _ _)) => some (True, put m (3 * d) (.val (.one (dv (.ptr (ds.drop n))))))
  | _, _ => none
def stIndex (m : Mp) (d : Nat) : Option (Nat × Nat) → Option V → Option V → Option (Prop × Mp)
  | some (wd, _), some (.one (.v (.sl wd' es) _ _)), some (.one (.v (.raw (.int _ n)) _ _)) =>
    if wd' = wd then some (0 ≤ n ∧ n < es.length, put m (3 * d) (.val (.one (dv (.ptr (es.getD n.toNat [])))))) else none
  | some (wd, _), some (.one (.bs k n')), some (.one (.v (.raw (.int _ n)) _ _)) => some (0 ≤ n ∧ n < n', put m (3 * d) (.val (.one (.bp k (n.toNat * wd)))))
  | _, _, _ => none
def stBin2 (m : Mp) (d : Nat) : Option (Prop × Value) → Option (Prop × Mp)
  | some (p, r) => some (p, put m (3 * d) (rb r))
  | none => none
def stEqb (P : Program) (t : TypeId) (m : Mp) (d : Nat) (a b : Bool) : BinOp → Option (Prop × Mp)
  | .eql => some (P.underlying t = some .bool, put m (3 * d) (rb (.bool (decide (a = b)))))
  | .neq => some (P.underlying t = some .bool, put m (3 * d) (rb (.bool (decide (a ≠ b)))))
  | _ => none
def stBin (P : Program) (t : TypeId) (m : Mp) (d : Nat) (op : BinOp) : Option V → Option V → Option (Prop × Mp)
  | some (.one (.v (.raw (.bool a)) _ _)), some (.one (.v (.raw (.bool b)) _ _)) => stEqb P t m d a b op
  | some (.one (.v (.raw u) _ _)), some (.one (.v (.raw v) _ _)) => stBin2 m d (bv op u v)
  | _, _ => none
def stNot (m : Mp) (d : Nat) : Option V → Option (Prop × Mp)
  | some (.one (.v (.raw (.bool b)) _ _)) => some (True, put m (3 * d) (rb (.bool (!b))))
  | _ => none
def stPick (m : Mp) (d : Nat) (x y : Option (V × Mp)) : Option V → Option (Prop × Mp)
  | some (.one (.v (.raw (.bool true)) _ _)) => stMove m d x
  | some (.one (.v (.raw (.bool false)) _ _)) => stMove m d y
  | _ => none
def stLen (P : Program) (m : Mp) (d : Nat) (t : TypeId) : Option V → Option (Prop × Mp)
  | some (.one (.v (.sl _ es) _ _)) => if (se P t).isSome then some (True, put m (3 * d) (rb (.int .i64 es.length))) else none
  | some (.one (.bs _ n)) => if (se P t).isSome then some (True, put m (3 * d) (rb (.int .i64 n))) else none
  | some (.one (.v (.raw (.string s)) _ _)) => some (P.underlying t = some .string, put m (3 * d) (rb (.int .i64 s.size)))
  | _ => none
def stBuild (d : Nat) : Option (List AC × Mp) → Option (Prop × Mp)
  | some (acs, m') => some (True, put m' (3 * d) (.val (.agg acs)))
  | none => none

def stCall (P : Program) (m : Mp) (d : Nat) : Callee → List Operand → List TypeId → Option (Prop × Mp)
  | .builtin .len, [x], [t] => stLen P m d t (opd 0 m x)
  | _, _, _ => none

def stOp (P : Program) (H : Hn) (m : Mp) (d : Nat) : Op → Option (Prop × Mp)
  | .move x => stMove m d (acq (H.tk d) (H.w d) m x)
  | .assign x => stMove m d (acq (H.tk d) (H.w d) m x)
  | .load t x => stLoad P (H.tk d) m d (ty P t) (opd 0 m x)
  | .fieldAddr t x f => stField m d (fo P t f) (opd 0 m x)
  | .indexAddr t x i => stIndex m d (se P t) (opd 0 m x) (opd 0 m i)
  | .binOp op t x y yt => stBin P t m d op (opd 0 m x) (opd 0 m y)
  | .unOp .not t x => stNot m d (opd 0 m x)
  | .pick c x y => stPick m d (acq true (H.w d) m x) (acq true (H.w d) m y) (opd 0 m c)
  | .call c => stCall P m d c.callee c.args.toList c.argTypes.toList
  | .build t parts => match sfs P t, zi P t with
    | some pl, some zs => stBuild d (acqs (fun i => pl[i]?) m zs parts.toList)
    | _, _ => none
  | _ => none

theorem stOp_ok {E : Env} {H : Hn} {m m' : Mp} {d : Nat} {o : Oper} {p : Prop} (hd : o.dst = some d) (hlt : d < E.nt) (h : stOp E.P H m d o.op = some (p, m')) (hp : p) : OpSt E m o m' := by
  unfold stOp at h
  split at h
  case h_1 x ho =>
    cases hx : acq (H.tk d) (H.w d) m x with
    | none => rw [hx] at h; simp [stMove] at h
    | some r =>
      obtain ⟨v, m1⟩ := r
      rw [hx] at h
      obtain ⟨_, rfl⟩ : True = p ∧ _ = m' := by simpa only [stMove, Option.some.injEq, Prod.mk.injEq] using h
      exact op_move (.inl ho) hd hlt hx
  case h_2 x ho =>
    cases hx : acq (H.tk d) (H.w d) m x with
    | none => rw [hx] at h; simp [stMove] at h
    | some r =>
      obtain ⟨v, m1⟩ := r
      rw [hx] at h
      obtain ⟨_, rfl⟩ : True = p ∧ _ = m' := by simpa only [stMove, Option.some.injEq, Prod.mk.injEq] using h
      exact op_move (.inr ho) hd hlt hx
  case h_3 t x ho =>
    unfold stLoad at h
    split at h
    · rename_i n g k off ht hx
      split at h
      · rename_i hgn
        cases hb : acqB (H.tk d) g n m k off with
        | none => rw [hb] at h; simp [stMove] at h
        | some r =>
          obtain ⟨v, m1⟩ := r
          rw [hb] at h
          obtain ⟨_, rfl⟩ : True = p ∧ _ = m' := by simpa only [stMove, Option.some.injEq, Prod.mk.injEq] using h
          exact op_load_box ho hd hlt hx ht (fun hf => hgn.resolve_left (by simp [hf])) hb
      · simp at h
    · rename_i n g ds _ _ ht hx
      split at h
      · rename_i hgn
        simp only [Option.some.injEq, Prod.mk.injEq] at h
        obtain ⟨rfl, rfl⟩ := h
        exact op_load_ptr ho hd hlt hx ht (fun hf => hgn.resolve_left (by simp [hf])) hp
      · simp at h
    · simp at h
  case h_4 t x f ho =>
    unfold stField at h
    split at h
    · rename_i n k off hf hx
      simp only [Option.some.injEq, Prod.mk.injEq] at h
      obtain ⟨_, rfl⟩ := h
      exact op_field_box ho hd hlt hx hf
    · rename_i n ds _ _ hf hx
      simp only [Option.some.injEq, Prod.mk.injEq] at h
      obtain ⟨_, rfl⟩ := h
      exact op_field_ptr ho hd hlt hx hf
    · simp at h
  case h_5 t x i ho =>
    unfold stIndex at h
    split at h
    · rename_i hs hx hi
      split at h
      · rename_i he; subst he
        simp only [Option.some.injEq, Prod.mk.injEq] at h
        obtain ⟨rfl, rfl⟩ := h
        exact op_index ho hd hlt hs hx hi hp.1 hp.2
      · simp at h
    · rename_i hs hx hi
      simp only [Option.some.injEq, Prod.mk.injEq] at h
      obtain ⟨rfl, rfl⟩ := h
      exact op_index_bs ho hd hlt hs hx hi hp.1 hp.2
    · simp at h
  case h_6 op t x y yt ho =>
    unfold stBin at h
    split at h
    · rename_i hx hy
      unfold stEqb at h
      split at h
      · simp only [Option.some.injEq, Prod.mk.injEq] at h
        obtain ⟨rfl, rfl⟩ := h
        exact op_eqb ho hd hlt hx hy hp _ (.inl ⟨rfl, rfl⟩)
      · simp only [Option.some.injEq, Prod.mk.injEq] at h
        obtain ⟨rfl, rfl⟩ := h
        exact op_eqb ho hd hlt hx hy hp _ (.inr ⟨rfl, rfl⟩)
      · simp at h
    · rename_i u _ _ v _ _ _ hx hy
      cases hb : bv op u v with
      | none => rw [hb] at h; simp [stBin2] at h
      | some r =>
        obtain ⟨q, r⟩ := r
        rw [hb] at h
        simp only [stBin2, Option.some.injEq, Prod.mk.injEq] at h
        obtain ⟨rfl, rfl⟩ := h
        exact op_bin ho hd hlt hx hy hb hp
    · simp at h
  case h_7 t x ho =>
    unfold stNot at h
    split at h
    · rename_i hx
      simp only [Option.some.injEq, Prod.mk.injEq] at h
      obtain ⟨_, rfl⟩ := h
      exact op_not ho hd hlt hx
    · simp at h
  case h_8 c x y ho =>
    unfold stPick at h
    split at h
    · rename_i hc
      cases hx : acq true (H.w d) m x with
      | none => rw [hx] at h; simp [stMove] at h
      | some r =>
        obtain ⟨v, m1⟩ := r
        rw [hx] at h
        obtain ⟨_, rfl⟩ : True = p ∧ _ = m' := by simpa only [stMove, Option.some.injEq, Prod.mk.injEq] using h
        exact op_pick ho hd hlt hc (by simpa using hx)
    · rename_i hc
      cases hx : acq true (H.w d) m y with
      | none => rw [hx] at h; simp [stMove] at h
      | some r =>
        obtain ⟨v, m1⟩ := r
        rw [hx] at h
        obtain ⟨_, rfl⟩ : True = p ∧ _ = m' := by simpa only [stMove, Option.some.injEq, Prod.mk.injEq] using h
        exact op_pick ho hd hlt hc (by simpa using hx)
    · simp at h
  case h_9 c ho =>
    unfold stCall at h
    split at h
    · rename_i x t hc hx ht
      have ho' : o.op = .call { callee := .builtin .len, args := #[x], argTypes := #[t] } := by
        rw [ho]
        obtain ⟨c1, c2, c3⟩ := c
        simp only [] at hc hx ht
        obtain ⟨c2⟩ := c2; obtain ⟨c3⟩ := c3
        simp only [] at hx ht
        rw [hc, hx, ht]
      unfold stLen at h
      split at h
      · rename_i hx
        split at h
        · rename_i hs
          simp only [Option.some.injEq, Prod.mk.injEq] at h
          obtain ⟨_, rfl⟩ := h
          obtain ⟨r, hr⟩ := Option.isSome_iff_exists.1 hs
          exact op_len_sl ho' hd hlt hr hx
        · simp at h
      · rename_i hx
        split at h
        · rename_i hs
          simp only [Option.some.injEq, Prod.mk.injEq] at h
          obtain ⟨_, rfl⟩ := h
          obtain ⟨r, hr⟩ := Option.isSome_iff_exists.1 hs
          exact op_len_bs ho' hd hlt hr hx
        · simp at h
      · rename_i hx
        simp only [Option.some.injEq, Prod.mk.injEq] at h
        obtain ⟨rfl, rfl⟩ := h
        exact op_len_str ho' hd hlt hp hx
      · simp at h
    · simp at h
  case h_10 t parts ho =>
    split at h
    · rename_i pl zs hp' hz
      cases hx : acqs (fun i => pl[i]?) m zs parts.toList with
      | none => rw [hx] at h; simp [stBuild] at h
      | some r =>
        obtain ⟨acs, m1⟩ := r
        rw [hx] at h
        simp only [stBuild, Option.some.injEq, Prod.mk.injEq] at h
        obtain ⟨_, rfl⟩ := h
        exact op_build ho hd hlt hp' hz hx
    · simp at h
  case h_11 => simp at h
end Go.RF
