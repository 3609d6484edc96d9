/- A logic over the walk in which memory is hidden, part 16: operators, make. -/
import Derived.Test.YtmahppdampmpfaaRF15
import Derived.IntWalk
set_option linter.unusedVariables false
namespace Go.RF

def r64 (n : Int) : Prop := -9223372036854775808 ≤ n ∧ n ≤ 9223372036854775807

/-- Plain operators: under which condition, and what they yield. -/
def bv : BinOp → Value → Value → Option (Prop × Value)
  | .add, .int .i64 a, .int .i64 b => some (r64 (a + b), .int .i64 (a + b))
  | .sub, .int .i64 a, .int .i64 b => some (r64 (a - b), .int .i64 (a - b))
  | .mul, .int .i64 a, .int .i64 b => some (r64 (a * b), .int .i64 (a * b))
  | .quo, .int .i64 a, .int .i64 b => some ((0 ≤ a ∧ a ≤ 9223372036854775807) ∧ 1 ≤ b, .int .i64 (a / b))
  | .rem, .int .i64 a, .int .i64 b => some (0 ≤ a ∧ 1 ≤ b, .int .i64 (a % b))
  | .eql, .int k a, .int k' b => if k = k' then some (True, .bool (decide (a = b))) else none
  | .neq, .int k a, .int k' b => if k = k' then some (True, .bool (decide (a ≠ b))) else none
  | .lss, .int k a, .int k' b => if k = k' then some (True, .bool (decide (a < b))) else none
  | .leq, .int k a, .int k' b => if k = k' then some (True, .bool (decide (a ≤ b))) else none
  | .gtr, .int k a, .int k' b => if k = k' then some (True, .bool (decide (b < a))) else none
  | .geq, .int k a, .int k' b => if k = k' then some (True, .bool (decide (b ≤ a))) else none
  | .add, .string a, .string b => some (a.size + b.size ≤ 9223372036854775807, .string (a ++ b))
  | .eql, .string a, .string b => some (True, .bool (decide (a = b)))
  | .neq, .string a, .string b => some (True, .bool (decide (a ≠ b)))
  | .lss, .string a, .string b => some (True, .bool (Op.bytesLess a.toList b.toList))
  | _, _, _ => none

theorem bytes_eq {a b : ByteArray} : a.toList = b.toList ↔ a = b := by
  rw [ByteArray.toList_eq, ByteArray.toList_eq]
  constructor
  · intro h
    obtain ⟨a⟩ := a; obtain ⟨b⟩ := b
    simp only [] at h
    rw [Array.toList_inj.1 h]
  · rintro rfl; rfl

theorem beq_dec {α : Type} [DecidableEq α] (a b : α) : (a == b) = decide (a = b) := by
  by_cases h : a = b <;> simp [h]

theorem bytes_beq (a b : ByteArray) : (a.toList == b.toList) = decide (a = b) := by
  by_cases h : a = b
  · simp [h]
  · simp [h, bytes_eq]

theorem bv_run {op : BinOp} {u v r : Value} {p : Prop} (h : bv op u v = some (p, r)) (hp : p) (t : TypeId) (x y : Operand) (P : Program) (w : World) :
    (eqGuard op t x y u v).run P w = .ok () w ∧ (binOp op t u v).run P w = .ok r w ∧ r.oneCell' = true := by
  unfold bv at h
  split at h
  case h_1 => obtain ⟨rfl, rfl⟩ : _ = p ∧ _ = r := by simpa using h
              exact ⟨by simp [eqGuard, pure], by simp [binOp, Op.intArith, IntWalk.i64_in _ hp, pure], rfl⟩
  case h_2 => obtain ⟨rfl, rfl⟩ : _ = p ∧ _ = r := by simpa using h
              exact ⟨by simp [eqGuard, pure], by simp [binOp, Op.intArith, IntWalk.i64_in _ hp, pure], rfl⟩
  case h_3 => obtain ⟨rfl, rfl⟩ : _ = p ∧ _ = r := by simpa using h
              exact ⟨by simp [eqGuard, pure], by simp [binOp, Op.intArith, IntWalk.i64_in _ hp, pure], rfl⟩
  case h_4 a b => obtain ⟨rfl, rfl⟩ : _ = p ∧ _ = r := by simpa using h
                  have hb : b ≠ 0 := by omega
                  exact ⟨by simp [eqGuard, pure], by simp [binOp, Op.intDiv, hb, IntWalk.i64_quo a b ⟨hp.1.1, hp.1.2, hp.2⟩, pure], rfl⟩
  case h_5 a b => obtain ⟨rfl, rfl⟩ : _ = p ∧ _ = r := by simpa using h
                  have hb : b ≠ 0 := by omega
                  exact ⟨by simp [eqGuard, pure], by simp [binOp, Op.intDiv, hb, Int.tmod_eq_emod_of_nonneg hp.1, pure], rfl⟩
  case h_16 => simp at h
  case h_12 => simp only [Option.some.injEq, Prod.mk.injEq] at h
               obtain ⟨rfl, rfl⟩ := h
               exact ⟨by simp [eqGuard, pure], by simp only [binOp_string_add]; exact run_string_add_sum w _ _ hp, rfl⟩
  case h_13 => simp only [Option.some.injEq, Prod.mk.injEq] at h
               obtain ⟨rfl, rfl⟩ := h
               exact ⟨by simp [eqGuard, pure], by simp [binOp, Op.stringOp, pure, bytes_beq], rfl⟩
  case h_14 => simp only [Option.some.injEq, Prod.mk.injEq] at h
               obtain ⟨rfl, rfl⟩ := h
               exact ⟨by simp [eqGuard, pure], by simp [binOp, Op.stringOp, pure, bytes_beq], rfl⟩
  case h_15 => simp only [Option.some.injEq, Prod.mk.injEq] at h
               obtain ⟨rfl, rfl⟩ := h
               exact ⟨by simp [eqGuard, pure], by simp [binOp, Op.stringOp, pure], rfl⟩
  all_goals
    split at h
    next hk =>
      subst hk
      simp only [Option.some.injEq, Prod.mk.injEq] at h
      obtain ⟨rfl, rfl⟩ := h
      refine ⟨by simp [eqGuard, pure], ?_, rfl⟩
      simp [binOp, Op.intCmp, pure, GT.gt, GE.ge, beq_dec, bne]
    next => simp at h

theorem op_bin {E : Env} {m : List (Nat × AV)} {o : Oper} {op : BinOp} {t : TypeId} {x y : Operand} {yt : TypeId} {d : Nat} {u v r : Value} {p : Prop} {c1 o1 c2 o2 : Bool}
    (ho : o.op = .binOp op t x y yt) (hd : o.dst = some d) (hlt : d < E.nt) (hx : opd 0 m x = some (.one (.v (.raw u) c1 o1))) (hy : opd 0 m y = some (.one (.v (.raw v) c2 o2)))
    (hb : bv op u v = some (p, r)) (hp : p) : OpSt E m o (put m (3 * d) (.val (.one (.v (.raw r) false true)))) := by
  refine op_pure hd hlt (bv_run hb hp t x y E.P default).2.2 fun G a w h => ?_
  have h1 := (opd_raw h hx).1
  have h2 := (opd_raw h hy).1
  obtain ⟨k1, k2, _⟩ := bv_run hb hp t x y E.P w
  simp [execOp, ho, h1, h2, k1, k2, pure]

theorem op_eqb {E : Env} {m : List (Nat × AV)} {o : Oper} {op : BinOp} {t : TypeId} {x y : Operand} {yt : TypeId} {d : Nat} {a b : Bool} {c1 o1 c2 o2 : Bool}
    (ho : o.op = .binOp op t x y yt) (hd : o.dst = some d) (hlt : d < E.nt) (hx : opd 0 m x = some (.one (.v (.raw (.bool a)) c1 o1))) (hy : opd 0 m y = some (.one (.v (.raw (.bool b)) c2 o2)))
    (ht : E.P.underlying t = some .bool) (r : Bool) (hop : (op = .eql ∧ r = decide (a = b)) ∨ (op = .neq ∧ r = decide (a ≠ b))) : OpSt E m o (put m (3 * d) (.val (.one (.v (.raw (.bool r)) false true)))) := by
  refine op_pure hd hlt rfl fun G a' w h => ?_
  have h1 := (opd_raw h hx).1
  have h2 := (opd_raw h hy).1
  rcases hop with ⟨rfl, rfl⟩ | ⟨rfl, rfl⟩
  · have := run_eql_bool (P := E.P) w t a b ht
    simp only [beq_dec] at this
    simp [execOp, ho, h1, h2, eqGuard, this, pure]
  · have := run_neq_bool (P := E.P) w t a b ht
    have e : (!(a == b)) = decide (a ≠ b) := by cases a <;> cases b <;> rfl
    rw [e] at this
    simp only [execOp, ho, h1, h2, Sem.run_bind]
    simp [eqGuard, pure, Result.andThen, this]

theorem op_not {E : Env} {m : List (Nat × AV)} {o : Oper} {t : TypeId} {x : Operand} {d : Nat} {b c1 o1 : Bool}
    (ho : o.op = .unOp .not t x) (hd : o.dst = some d) (hlt : d < E.nt) (hx : opd 0 m x = some (.one (.v (.raw (.bool b)) c1 o1))) :
    OpSt E m o (put m (3 * d) (.val (.one (.v (.raw (.bool (!b))) false true)))) := by
  refine op_pure hd hlt rfl fun G a w h => ?_
  have h1 := (opd_raw h hx).1
  simp [execOp, ho, h1, Op.unary, pure]

theorem op_pick {E : Env} {m m' : List (Nat × AV)} {o : Oper} {c x y : Operand} {d wd : Nat} {b c1 o1 : Bool} {v : V}
    (ho : o.op = .pick c x y) (hd : o.dst = some d) (hlt : d < E.nt) (hc : opd 0 m c = some (.one (.v (.raw (.bool b)) c1 o1)))
    (hx : acq true wd m (if b then x else y) = some (v, m')) : OpSt E m o (put m' (3 * d) (.val v)) := by
  intro a w ⟨G, h⟩
  have h1 := (opd_raw h hc).1
  obtain ⟨vals, S, src, ht, hu⟩ := acq_taken h hx
  refine ⟨a.eval (if b then x else y), ?_, ?_⟩
  · cases b <;> simp [execOp, ho, h1, asBool, pure]
  · rw [hd]; exact h.place d hlt v _ ht hu

/-! ### slices into boxes -/
theorem Taken.bs {G : Gh} {w : World} {m : List (Nat × AV)} (k n : Nat) :
    Taken G w m m (V.one (.bs k n)).acs [.slice (some ⟨G.bm k, 0, none⟩) n n] (fun _ _ => False) (fun _ => none) := by
  refine ⟨Drop.refl m, rfl, fun i ac hi => ?_, fun i i' p _ _ h => by simp at h⟩
  cases i with
  | zero =>
    obtain rfl : _ = ac := by simpa [V.acs] using hi
    exact ⟨rfl, fun hc => by simp [AC.cap] at hc⟩
  | succ i => simp [V.acs] at hi

theorem op_index_bs {E : Env} {m : List (Nat × AV)} {o : Oper} {x ix : Operand} {t : TypeId} {wd by_ d k n' : Nat} {c2 o2 : Bool} {kk : IntKind} {n : Int}
    (ho : o.op = .indexAddr t x ix) (hd : o.dst = some d) (hlt : d < E.nt) (ht : se E.P t = some (wd, by_)) (hx : opd 0 m x = some (.one (.bs k n')))
    (hi : opd 0 m ix = some (.one (.v (.raw (.int kk n)) c2 o2))) (h0 : 0 ≤ n) (h1 : n < n') :
    OpSt E m o (put m (3 * d) (.val (.one (.bp k (n.toNat * wd))))) := by
  intro a w ⟨G, h⟩
  obtain ⟨val, own, hs, hc⟩ := opd_ok h hx
  have he : a.eval x = .slice (some ⟨G.bm k, 0, none⟩) n' n' := hs.trans (hc 0 _ rfl)
  have hie := (opd_raw h hi).1
  obtain ⟨e, ie, hu, hi1, hi2, _⟩ := se_spec ht
  refine ⟨.pointer (some ⟨G.bm k, n.toNat * wd, none⟩), ?_, ?_⟩
  · simp [execOp, ho, he, hie, Instr.indexAt, asIntOf, run_underlying hu, sizeOf, typeInfo, hi1, hi2, h0, h1, add_lit, pure]
  · rw [hd]; exact h.place d hlt _ _ (Taken.bp k (n.toNat * wd)) rfl

theorem op_len_bs {E : Env} {m : List (Nat × AV)} {o : Oper} {x : Operand} {t : TypeId} {wd by_ d k n : Nat}
    (ho : o.op = .call { callee := .builtin .len, args := #[x], argTypes := #[t] }) (hd : o.dst = some d) (hlt : d < E.nt) (ht : se E.P t = some (wd, by_)) (hx : opd 0 m x = some (.one (.bs k n))) :
    OpSt E m o (put m (3 * d) (.val (.one (.v (.raw (.int .i64 n)) false true)))) := by
  refine op_pure hd hlt rfl fun G a w h => ?_
  obtain ⟨val, own, hs, hc⟩ := opd_ok h hx
  have he : a.eval x = .slice (some ⟨G.bm k, 0, none⟩) n n := hs.trans (hc 0 _ rfl)
  obtain ⟨e, ie, hu, _⟩ := se_spec ht
  simp [execOp, ho, resolve, invoke, builtin, he, Builtin.len_, run_underlying hu, goInt, pure]

theorem Taken.rep {G : Gh} {w : World} {m : List (Nat × AV)} {zs : List AC} {zc : List Value} (ht0 : Taken G w m m zs zc (fun _ _ => False) (fun _ => none)) :
    ∀ n, Taken G w m m ((List.replicate n zs).flatten) ((List.replicate n zc).flatten) (fun _ _ => False) (fun _ => none) := by
  intro n
  induction n with
  | zero => exact Taken.nil
  | succ n ih =>
    refine ⟨Drop.refl m, ?_, fun j ac hj => ?_, fun i i' p _ _ h => by simp at h⟩
    · rw [List.replicate_succ, List.replicate_succ, List.flatten_cons, List.flatten_cons, List.length_append, List.length_append, ih.len, ht0.len]
    · rw [List.replicate_succ, List.flatten_cons] at hj
      simp only [List.replicate_succ, List.flatten_cons, List.getD]
      by_cases hjl : j < zs.length
      · rw [List.getElem?_append_left hjl] at hj
        rw [List.getElem?_append_left (by rw [ht0.len]; exact hjl)]
        exact ht0.cell j ac hj
      · rw [List.getElem?_append_right (by omega)] at hj
        rw [List.getElem?_append_right (by rw [ht0.len]; omega), ht0.len]
        exact ih.cell _ ac hj
theorem zero_cells (zc : Array Value) (wd : Nat) (hzc : zc.size = wd) (hw0 : 0 < wd) (len : Nat) : madeCells zc (len * wd) = ((List.replicate len zc.toList).flatten).toArray := by
  unfold madeCells
  symm
  apply Array.ext'
  apply List.ext_getElem?
  intro j
  have hgen : ∀ n j, j < n * wd → ((List.replicate n zc.toList).flatten)[j]? = some (zc[j % wd]!) := by
    intro n
    induction n with
    | zero => intro j hj; omega
    | succ n ih =>
      intro j hj
      rw [List.replicate_succ, List.flatten_cons]
      by_cases hjl : j < wd
      · rw [List.getElem?_append_left (by simp [hzc]; exact hjl), Nat.mod_eq_of_lt hjl]
        have : j < zc.size := by omega
        simp [this]
      · have hj2 : j - wd < n * wd := by
          have : j < n * wd + wd := by rw [← Nat.succ_mul]; exact hj
          omega
        rw [List.getElem?_append_right (by simp [hzc]; omega)]
        have e1 : zc.toList.length = wd := by simp [hzc]
        rw [e1, ih (j - wd) hj2, ← Nat.mod_eq_sub_mod (by omega : wd ≤ j)]
  have hlen : ((List.replicate len zc.toList).flatten).length = len * wd := by simp [List.length_flatten, hzc]
  by_cases hj : j < len * wd
  · rw [hgen len j hj]; simp [hj, hzc]
  · rw [List.getElem?_eq_none (by simpa [hzc] using (by omega : len * wd ≤ j)), List.getElem?_eq_none (by simp; omega)]

theorem op_make {E : Env} {m : List (Nat × AV)} {o : Oper} {x y : Operand} {t e : TypeId} {wd by_ d : Nat} {n : Int} {k1 k2 : IntKind} {c1 o1 c2 o2 : Bool} {zs : List AC}
    (ho : o.op = .makeSlice t x y) (hd : o.dst = some d) (hlt : d < E.nt) (hnp : E.np ≤ d) (ht : se E.P t = some (wd, by_)) (hte : E.P.underlying t = some (.slice e)) (hz : zi E.P e = some zs) (hzl : zs.length = wd) (hw : 0 < wd)
    (hx : opd 0 m x = some (.one (.v (.raw (.int k1 n)) c1 o1))) (hy : opd 0 m y = some (.one (.v (.raw (.int k2 n)) c2 o2))) (h0 : 0 ≤ n) (hb : (by_ : Int) * n ≤ 281474976710656) (h63 : n ≤ 9223372036854775807) :
    OpOK E m o (put (put (forget d m) (3 * d + 1) (.val (.agg ((List.replicate n.toNat zs).flatten)))) (3 * d) (.val (.one (.bs d n.toNat)))) := by
  intro a w Q ⟨G, h⟩
  obtain ⟨i, z, hi, hzz, ht0⟩ := zi_taken hz G w m
  obtain ⟨e', ie, hu, hi1, hi2, hi3⟩ := se_spec ht
  obtain rfl : e' = e := by rw [hte] at hu; simpa using hu.symm
  obtain rfl : i = ie := by rw [hi] at hi1; simpa using hi1
  have hzc : z.cells.size = wd := by have := ht0.len; rw [hzl] at this; simpa using this
  have hxe := (opd_raw h hx).1
  have hye := (opd_raw h hy).1
  have hrun := run_make (P := E.P) w t e' i z hu hi hzz k1 k2 n n h0 (Int.le_refl _) (by rw [hi3]; exact hb) h63
  rw [hi2, zero_cells z.cells wd hzc hw] at hrun
  refine wp_of_run (v := .slice (some ⟨w.heap.size, 0, none⟩) n.toNat n.toNat) (w' := w.alloc (.cells ((List.replicate n.toNat z.cells.toList).flatten).toArray e')) ?_ ?_
  · simp [execOp, ho, hxe, hye, hrun, pure]
  · rw [hd]
    obtain ⟨G', h'⟩ := h.newBox d hlt hnp ((List.replicate n.toNat zs).flatten) e' (Taken.rep ht0 n.toNat) (fun ac hac => by
      obtain ⟨l, hl, hac'⟩ := List.mem_flatten.1 hac
      obtain rfl := List.eq_of_mem_replicate hl
      exact zi_bp hz d ac hac')
    have hbm : G'.bm d = w.heap.size := by
      have h1 := h'.slots d (.val (.one (.bp d 0))) (by rw [look_put, if_pos rfl]) trivial
      have h2 := h'.cells (3 * d) (.val (.one (.bp d 0))) (by rw [look_put, if_pos rfl]) trivial 0 _ rfl
      have hlt' : d < a.tmps.size := by rw [h.nt]; exact hlt
      simp only [AVSh, VSh, Act.put] at h1
      simp only [ACR] at h2
      rw [h2] at h1
      simpa [hlt'] using h1.symm
    have h3 := h'.place d hlt (.one (.bs d n.toNat)) (.slice (some ⟨w.heap.size, 0, none⟩) n.toNat n.toNat) (Taken.bs (G := G') d n.toNat) (by simp [VOf, hbm])
    have e1 : (a.put (some d) (.pointer (some ⟨w.heap.size, 0, none⟩))).put (some d) (.slice (some ⟨w.heap.size, 0, none⟩) n.toNat n.toNat) = a.put (some d) (.slice (some ⟨w.heap.size, 0, none⟩) n.toNat n.toNat) := by
      simp [Act.put]
    rw [e1] at h3
    obtain ⟨G3, h3⟩ := h3
    refine ⟨_, h3.weaken (fun κ av hk => ⟨av, ?_, AVle.refl _⟩) _ (fun _ _ _ => id) (fun _ _ _ _ _ _ _ _ => id)⟩
    simp only [look_put] at hk ⊢
    split
    · rename_i he; rw [if_pos he] at hk; exact hk
    · rename_i he; rw [if_neg he] at hk
      exact hk
end Go.RF
