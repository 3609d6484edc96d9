/- A logic over the walk in which memory is hidden, part 13: append. -/
import Derived.Test.YtmahppdampmpfaaRF12
set_option linter.unusedVariables false
namespace Go.RF
open Go.RowKit (Below)

theorem run_append_none {P : Program} (w : World) (t ty : TypeId) (e : TypeId) (i : TypeInfo) (ht : P.underlying t = some (.slice e)) (hi : P.info? e = some i) (A Ax : Option Addr) (n cp c : Nat) (h : n ≤ cp) :
    (Builtin.append_ #[t, t] ty #[.slice A n cp, .slice Ax 0 c]).run P w = .ok (.slice A n cp) w := by
  cases A <;> cases Ax <;> simp [Builtin.append_, run_underlying ht, sizeOf, typeInfo, hi, Builtin.lenOf, h, Builtin.firstCells, loadCells, loadCellsFrom, storeCells]

theorem run_append_room_at {P : Program} (w : World) (t ty e : TypeId) (i : TypeInfo) (ht : P.underlying t = some (.slice e)) (hi : P.info? e = some i)
    (g o sLen sCap : Nat) (cur : Array Value) (t0 : TypeId) (hg : w.heap[g]? = some (.cells cur t0 (0, 0)))
    (a : Addr) (m c : Nat) (news : List Value) (hl : news.length = m * i.size) (hnews : ∀ j u, news[j]? = some u → w.cell? (a.add j) = some u) (h1 : ∀ u ∈ news, u.oneCell' = true)
    (hroom : sLen + m ≤ sCap) (hfit : o + sLen * i.size + news.length ≤ cur.size) :
    (Builtin.append_ #[t, t] ty #[.slice (some ⟨g, o, none⟩) sLen sCap, .slice (some a) m c]).run P w =
      .ok (.slice (some ⟨g, o, none⟩) (sLen + m) sCap) (w.setRow g (cur.toList.take (o + sLen * i.size) ++ news ++ cur.toList.drop (o + sLen * i.size + news.length)).toArray) := by
  have hf := run_firstCells_some (P := P) w i.size m a m c news hl hnews
  have hst := run_storeCells_at P g (o + sLen * i.size) t0 news 0 cur w hg (by simpa using hfit) h1
  simp only [Nat.add_zero] at hst
  simp [Builtin.append_, run_underlying ht, sizeOf, typeInfo, hi, Builtin.lenOf, hroom, hf, add_lit, hst]

theorem Taken.snoc {G : Gh} {w : World} {m m' : List (Nat × AV)} {acs : List AC} {vals : List Value} {S : Nat → Nat → Prop} {src : Nat → Option (Nat × Nat)} (t : Taken G w m m' acs vals S src) :
    Taken G w m m' (acs ++ [.v (.raw (.bool false)) false true]) (vals ++ [.bool false]) S (fun i => if i < acs.length then src i else none) := by
  refine ⟨t.drop, by simp [t.len], fun i ac hi => ?_, fun i i' p hi hi' e1 e2 => ?_⟩
  · by_cases h : i < acs.length
    · rw [List.getElem?_append_left h] at hi
      simp only [if_pos h]
      have e : (vals ++ [Value.bool false]).getD i undef = vals.getD i undef := by rw [List.getD, List.getElem?_append_left (by rw [t.len]; exact h)]; rfl
      rw [e]; exact t.cell i ac hi
    · rw [List.getElem?_append_right (by omega)] at hi
      simp only [if_neg h]
      have hi0 : i - acs.length = 0 := by
        have := (List.getElem?_eq_some_iff.1 hi).1; simp at this; omega
      rw [hi0] at hi
      obtain rfl : _ = ac := by simpa using hi
      have e : (vals ++ [Value.bool false]).getD i undef = .bool false := by
        rw [List.getD, List.getElem?_append_right (by rw [t.len]; omega), t.len, hi0]; rfl
      rw [e]
      exact ⟨⟨[], by simp [Rd, Value.oneCell'], fun _ => by simp, fun h => by simp at h⟩, fun hc => by simp [AC.cap] at hc⟩
  · split at e1
    · split at e2
      · exact t.inj i i' p (by assumption) (by assumption) e1 e2
      · simp at e2
    · simp at e1

theorem Taken.two {E : Env} {G : Gh} {m m1 m2 : List (Nat × AV)} {a : Act} {w : World} (h : RelG E G ⟨m⟩ a w) {c1 c2 : AC} {u1 u2 : Value} {S S2 : Nat → Nat → Prop} {src src2 : Nat → Option (Nat × Nat)}
    (t : Taken G w m m1 [c1] [u1] S src) (t2 : Taken { G with own := fun κ i b => G.own κ i b ∧ ¬ S κ i } w m1 m2 [c2] [u2] S2 src2) :
    ∃ S3 src3, Taken G w m m2 [c1, c2] [u1, u2] S3 src3 := by
  obtain ⟨S3, src3, h3⟩ := Taken.spl h t.snoc t2 1 (by simp)
  exact ⟨S3, src3, by simpa [RF.spl] using h3⟩

theorem Taken.head {G : Gh} {w : World} {m m' : List (Nat × AV)} {c c2 : AC} {u u2 : Value} {S : Nat → Nat → Prop} {src : Nat → Option (Nat × Nat)} (t : Taken G w m m' [c, c2] [u, u2] S src) :
    Taken G w m m' [c] [u] S src := by
  refine ⟨t.drop, rfl, fun i ac hi => ?_, fun i i' p hi hi' e1 e2 => by simp at hi hi'; omega⟩
  cases i with
  | zero =>
    have := t.cell 0 ac (by simpa using hi)
    simpa using this
  | succ i => simp at hi

theorem Below.drewAlloc (w : World) (o : Obj) : Below w.heap.size w (w.drew.alloc o) := ((Below.refl _ w).drew).alloc (Nat.le_refl _) o

theorem RdRows.nil_len {w : World} {F : Fz} {vs : List Value} {B : List Nat} (h : RdRows w F [] vs B) : vs = [] ∧ B = [] := by simpa [RdRows] using h

/-- What stands behind a slice that is read. -/
theorem rows_at {w : World} {F : Fz} {wd : Nat} {es : List (List D)} {A : Option Addr} {n cp : Nat} {B : List Nat} (h : Rd w F (.sl wd es) (.slice A n cp) B) :
    n = es.length ∧ n ≤ cp ∧ cp ≤ maxLen ∧ (∀ e ∈ es, e.length = wd) ∧ ∃ vs B', RdRows w F es vs B' ∧ vs.length = n * wd ∧ (∀ x ∈ B', x ∈ B) ∧ (B.Nodup → B'.Nodup) ∧
      (vs = [] ∨ ∃ b o, A = some ⟨b, o, none⟩ ∧ Lies w F b o vs ∧ b ∈ B ∧ (B.Nodup → b ∉ B')) := by
  simp only [Rd] at h
  obtain ⟨A', cap, e1, e2, e3, e4, e5⟩ := h
  obtain ⟨rfl, rfl, rfl⟩ : A = A' ∧ n = es.length ∧ cp = cap := by simpa using e1
  refine ⟨rfl, e2, e3, e4, ?_⟩
  rcases e5 with ⟨rfl, rfl⟩ | ⟨b, o, vs, B', rfl, rfl, hl, hr⟩
  · exact ⟨[], [], by simp [RdRows], by simp, by simp, fun _ => by simp, .inl rfl⟩
  · exact ⟨vs, B', hr, hr.length e4, fun x hx => by simp [hx], fun h => (List.nodup_cons.1 h).2, .inr ⟨b, o, rfl, hl, by simp, fun h => (List.nodup_cons.1 h).1⟩⟩

theorem Lies.cells_add {w : World} {F : Fz} {b o : Nat} {vs : List Value} (h : Lies w F b o vs) : ∀ j u, vs[j]? = some u → w.cell? ((⟨b, o, none⟩ : Addr).add j) = some u := fun j u hj => by
  rw [add_lit]; exact (h j u hj).1

theorem op_append {E : Env} {m m1 m2 : List (Nat × AV)} {o : Oper} {s x : Operand} {t : TypeId} {wd by_ d : Nat} {es es2 : List (List D)} {o1 c2 o2 : Bool}
    (ho : o.op = .call { callee := .builtin .append, args := #[s, x], argTypes := #[t, t] }) (hd : o.dst = some d) (hlt : d < E.nt)
    (ht : se E.P t = some (wd, by_)) (hzt : (zi E.P ((E.P.underlying t).elim 0 fun | .slice e => e | _ => 0)).map (·.length) = some wd) (hw : 0 < wd) (hs : acq true wd m s = some (.one (.v (.sl wd es) true o1), m1)) (hx : acq true wd m1 x = some (.one (.v (.sl wd es2) c2 o2), m2))
    (hlen : (es.length + es2.length) * by_ ≤ 140737488355328) (hlen2 : es.length + es2.length ≤ maxLen) :
    OpOK E m o (put m2 (3 * d) (.val (.one (.v (.sl wd (es ++ es2)) true (o1 && o2))))) := by
  intro a w Q ⟨G, h⟩
  obtain ⟨e, ie, hu, hi1, hi2, hi3⟩ := se_spec ht
  obtain ⟨vals1, S1, src1, t1, hu1⟩ := acq_taken h hs
  have h1 := (t1.facts h).1
  obtain ⟨vals2, S2, src2, t2, hu2⟩ := acq_taken h1 hx
  have hv1 : vals1 = [a.eval s] := by
    have := t1.len
    match vals1, this with
    | [y], _ => simp only [VOf] at hu1; simpa using hu1.symm
  have hv2 : vals2 = [a.eval x] := by
    have := t2.len
    match vals2, this with
    | [y], _ => simp only [VOf] at hu2; simpa using hu2.symm
  subst hv1; subst hv2
  obtain ⟨S3, src3, t3⟩ := Taken.two h t1 t2
  obtain ⟨k1, k2, k3, k4⟩ := t3.facts h
  have r1 := k2 0 _ rfl
  have r2 := k2 1 _ rfl
  simp only [List.getD_cons_zero, List.getD_cons_succ] at r1 r2
  obtain ⟨B1, q1, q2, q3⟩ := r1
  obtain ⟨B2, p1, p2, p3⟩ := r2
  obtain ⟨wd', es', he', hcap⟩ := q3 rfl
  obtain ⟨rfl, rfl⟩ : wd = wd' ∧ es = es' := by simpa using he'
  have hex : ∀ v w', (Builtin.append_ #[t, t] o.type #[a.eval s, a.eval x]).run E.P w = .ok v w' → (execOp a.eval o).run E.P w = .ok (.value v) w' := by
    intro v w' hr
    simp [execOp, ho, resolve, invoke, builtin, hr, pure]
  obtain ⟨A, n, cp, eS, hncp, hsp⟩ := hcap
  have q1' := q1
  rw [eS] at q1'
  obtain ⟨en, _, hmx, hwd1, vs1, B1', rr1, hl1, sub1, nd1, alt1⟩ := rows_at q1'
  have p1' := p1
  obtain ⟨Ax, cx, eX⟩ : ∃ Ax cx, a.eval x = .slice Ax es2.length cx := by
    simp only [Rd] at p1'
    obtain ⟨Ax, cx, e, _⟩ := p1'
    exact ⟨Ax, cx, e⟩
  rw [eX] at p1'
  obtain ⟨en2, hn2, hmx2, hwd2, vs2, B2', rr2, hl2, sub2, nd2, alt2⟩ := rows_at p1'
  rw [eS, eX] at hex
  subst en
  have hdisj : ∀ i i' b, ownOf G src3 2 i b → ownOf G src3 2 i' b → i = i' := fun i i' b hb hb' => (k4 i b hb).2.2.2 i' hb'
  have hrr : RdRows w G.F (es ++ es2) (vs1 ++ vs2) (B1' ++ B2') := rr1.append rr2
  have hwd : ∀ y ∈ es ++ es2, y.length = wd := fun y hy => by
    rcases List.mem_append.1 hy with hy | hy
    · exact hwd1 y hy
    · exact hwd2 y hy
  have hown : (o1 && o2) = true → (B1' ++ B2').Nodup ∧ ∀ b ∈ B1' ++ B2', ∃ i, ownOf G src3 2 i b := by
    intro hoo
    simp only [Bool.and_eq_true] at hoo
    obtain ⟨n1, m1', _⟩ := q2 hoo.1
    obtain ⟨n2, m2', _⟩ := p2 hoo.2
    refine ⟨List.nodup_append.2 ⟨nd1 n1, nd2 n2, fun y hy z hz hyz => ?_⟩, fun b hb => ?_⟩
    · subst hyz
      have := hdisj _ _ _ (m1' y (sub1 y hy)) (m2' y (sub2 y hz))
      omega
    · rcases List.mem_append.1 hb with hb | hb
      · exact ⟨0, m1' b (sub1 b hb)⟩
      · exact ⟨1, m2' b (sub2 b hb)⟩
  have hone2 : ∀ u ∈ vs2, u.oneCell' = true := rr2.one
  have hvl : (vs1 ++ vs2).length = (es.length + es2.length) * wd := by rw [List.length_append, hl1, hl2, Nat.add_mul]
  obtain ⟨iz, z, hz1, hz2, hz3⟩ : ∃ iz z, E.P.info? e = some iz ∧ iz.zero = some z ∧ z.cells.size = wd := by
    rw [hu] at hzt
    obtain ⟨zs, h5, h6⟩ := Option.map_eq_some_iff.1 hzt
    obtain ⟨iz, z, h7, h8, h9⟩ := zi_taken h5 G w m
    exact ⟨iz, z, h7, h8, by have := h9.len; rw [h6] at this; simpa using this⟩
  obtain rfl : iz = ie := by rw [hi1] at hz1; simpa using hz1.symm
  by_cases hm0 : es2.length = 0
  · -- nothing is appended
    obtain rfl : es2 = [] := List.length_eq_zero_iff.1 hm0
    have hr := run_append_none (P := E.P) w t o.type e iz hu hi1 A Ax es.length cp cx hncp
    refine wp_of_run (hex _ _ hr) ?_
    rw [hd]
    have hB : RdRows w G.F ([] : List (List D)) vs2 B2' := rr2
    obtain ⟨_, rfl⟩ := hB.nil_len
    have hp := h.place d hlt (.one (.v (.sl wd es) true o1)) (.slice A es.length cp) (m' := m2) (vals := [.slice A es.length cp]) (eS ▸ t3.head) rfl
    obtain ⟨G', hp⟩ := hp
    refine ⟨_, hp.weaken (fun κ av hk => ?_) _ (fun _ _ _ => id) (fun _ _ _ _ _ _ _ _ => id)⟩
    simp only [look_put] at hk ⊢
    split at hk
    · rename_i hh
      rw [if_pos hh]
      obtain rfl : _ = av := by simpa using hk
      refine ⟨_, rfl, ?_⟩
      exact ⟨by simp, id, fun hoo => by simp only [Bool.and_eq_true] at hoo; exact hoo.1⟩
    · rename_i hh; rw [if_neg hh]; exact ⟨av, hk, AVle.refl av⟩
  · obtain ⟨bx, ox, rfl, lx, _, _⟩ : ∃ b o, Ax = some ⟨b, o, none⟩ ∧ Lies w G.F b o vs2 ∧ b ∈ B2 ∧ (B2.Nodup → b ∉ B2') := by
      rcases alt2 with rfl | h9
      · exfalso
        have : es2.length * wd = 0 := by simpa using hl2.symm
        rcases Nat.mul_eq_zero.1 this with h0 | h0 <;> omega
      · exact h9
    by_cases hroom : es.length + es2.length ≤ cp
    · -- in place
      rcases hsp with hsp | ⟨b, oo, cur, t0, rfl, g1, g2, g3⟩
      · omega
      · have hspare : spareB (a.eval s) = some b := by rw [eS]; simp only [spareB]; rw [if_pos (by omega)]
        obtain ⟨⟨c1, c2'⟩, c3, _⟩ := k3 0 _ rfl rfl b (by simpa using hspare)
        have hfit : oo + es.length * wd + vs2.length ≤ cur.size := by
          have : (es.length + es2.length) * wd ≤ cp * wd := Nat.mul_le_mul_right _ hroom
          rw [Nat.add_mul] at this; omega
        have hr := run_append_room_at (P := E.P) w t o.type e iz hu hi1 b oo es.length cp cur t0 g1 ⟨bx, ox, none⟩ es2.length cx vs2 (by rw [hi2]; exact hl2) lx.cells_add hone2 hroom (by rw [hi2]; exact hfit)
        rw [hi2] at hr
        refine wp_of_run (hex _ _ hr) ?_
        rw [hd]
        generalize hnew : (cur.toList.take (oo + es.length * wd) ++ vs2 ++ cur.toList.drop (oo + es.length * wd + vs2.length)) = new
        have enew : new = RF.spl (oo + es.length * wd) vs2 cur.toList := by rw [← hnew, spl_eq]; simp; omega
        have hng : (w.setRow b new.toArray).heap[b]? = some (.cells new.toArray t0 (0, 0)) := setRow_heap w b cur _ t0 (0, 0) g1
        have hnl : new.length = cur.size := by rw [enew, spl_length]; simp
        have hnat : ∀ j, new[j]? = if oo + es.length * wd ≤ j ∧ j < oo + es.length * wd + vs2.length then vs2[j - (oo + es.length * wd)]? else cur[j]? := fun j => by
          rw [enew, spl_at _ _ _ _ (by simp; omega)]; simp
        have hblt : b < w.heap.size := (Array.getElem?_eq_some_iff.1 g1).1
        have hfz : ∀ o', G.F b o' → (w.setRow b new.toArray).cell? ⟨b, o', none⟩ = w.cell? ⟨b, o', none⟩ := fun o' hf => by
          rw [cell_of_row _ b o' _ t0 (0, 0) hng, cell_of_row w b o' cur t0 (0, 0) g1]
          simp only [List.getElem?_toArray, hnat]
          rw [if_neg]
          intro hh
          refine g3 (o' - oo) (by omega) ?_ (by rw [show oo + (o' - oo) = o' by omega]; exact hf)
          have : (es.length + es2.length) * wd ≤ cp * wd := Nat.mul_le_mul_right _ hroom
          rw [Nat.add_mul] at this; omega
        have hcell : ∀ b' o', G.F b' o' → (w.setRow b new.toArray).cell? ⟨b', o', none⟩ = w.cell? ⟨b', o', none⟩ := fun b' o' hf => by
          by_cases hbb : b' = b
          · subst hbb; exact hfz o' hf
          · exact World.cell?_of_block (w := w) (setRow_other w _ b' _ hbb)
        have hbx : ∀ k x, look m2 (3 * k + 1) = some x → G.bm k ≠ b := fun k x hx => by
          obtain ⟨y, hy⟩ := t3.drop.lookbox hx
          exact c2' k y hy
        have h5 := k1.touch (w' := w.setRow b new.toArray) b (by simp) rfl rfl rfl (fun j hj => setRow_other w _ j _ hj) hfz c1.1 hbx (fun κ av hk hon i ac hi hc => c3 κ av hk hon i ac hi hc)
        have h6 := h5.freeze b (fun b' o' => G.F b' o' ∨ (b' = b ∧ oo ≤ o' ∧ o' < oo + (es.length + es2.length) * wd ∧ oo + es.length * wd ≤ o')) (fun _ _ => .inl) (fun b' o' hf => hf.imp id (fun h => h.1)) (by simpa using hblt) c1.2 hbx (fun κ av hk hon i ac hi hc => c3 κ av hk hon i ac hi hc)
        have hmul : (es.length + es2.length) * wd = es.length * wd + es2.length * wd := Nat.add_mul _ _ _
        refine ⟨_, h6.slot d hlt (.val (.one (.v (.sl wd (es ++ es2)) true (o1 && o2)))) _ (fun _ => .slice (some ⟨b, oo, none⟩) (es.length + es2.length) cp) (fun i b' => i = 0 ∧ ∃ i, ownOf G src3 2 i b') (fun _ => rfl) (fun _ i ac hi => ?_) (fun _ i ac hi hc b' hs' => ?_) (fun i b' hbb => ?_)⟩
        · cases i with
          | succ i => simp [AV.acs, V.acs] at hi
          | zero =>
            obtain rfl : _ = ac := by simpa [AV.acs, V.acs] using hi
            refine ⟨b :: (B1' ++ B2'), ?_, fun hoo => ⟨?_, ?_, fun _ b' hs' => ?_⟩, fun _ => ⟨wd, es ++ es2, rfl, some ⟨b, oo, none⟩, es.length + es2.length, cp, rfl, hroom, .inr ⟨b, oo, new.toArray, t0, rfl, hng, by simp [hnl]; exact g2, fun j hj hj' hf => ?_⟩⟩⟩
            · simp only [Rd]
              refine ⟨some ⟨b, oo, none⟩, cp, by simp, by simpa using hroom, hmx, hwd, .inr ⟨b, oo, vs1 ++ vs2, B1' ++ B2', rfl, rfl, Lies.append ?_ ?_, RdRows.mono (fun _ _ => .inl) hcell _ _ _ hrr⟩⟩
              · rcases alt1 with rfl | ⟨b', o', he2, hl', _⟩
                · intro j u hj; simp at hj
                · obtain ⟨rfl, rfl⟩ : b = b' ∧ oo = o' := by simpa using he2
                  exact hl'.mono (fun _ _ => .inl) hcell
              · rw [hl1]
                intro j u hj
                have hjl : j < vs2.length := (List.getElem?_eq_some_iff.1 hj).1
                refine ⟨?_, .inr ⟨rfl, by omega, by rw [hmul, ← hl2]; omega, by omega⟩⟩
                rw [cell_of_row _ b _ _ t0 (0, 0) hng]
                simp only [List.getElem?_toArray, hnat]
                rw [if_pos (by omega), show oo + es.length * wd + j - (oo + es.length * wd) = j by omega]
                exact hj
            · obtain ⟨n1, m1'⟩ := hown hoo
              refine List.nodup_cons.2 ⟨fun hm => ?_, n1⟩
              simp only [Bool.and_eq_true] at hoo
              have hb0 := (q2 hoo.1).2.2 rfl b hspare
              rcases List.mem_append.1 hm with hm | hm
              · rcases alt1 with rfl | ⟨b', o', he2, hl', hbB, hnb⟩
                · have : es = [] := by
                    have h0 : es.length * wd = 0 := by simpa using hl1.symm
                    rcases Nat.mul_eq_zero.1 h0 with h0 | h0
                    · exact List.length_eq_zero_iff.1 h0
                    · omega
                  subst this
                  obtain ⟨_, rfl⟩ := rr1.nil_len
                  simp at hm
                · obtain ⟨rfl, rfl⟩ : b = b' ∧ oo = o' := by simpa using he2
                  exact hnb (q2 hoo.1).1 hm
              · have := hdisj _ _ _ hb0 ((p2 hoo.2).2.1 b (sub2 b hm))
                omega
            · intro b' hb'
              rcases List.mem_cons.1 hb' with rfl | hb'
              · simp only [Bool.and_eq_true] at hoo
                exact ⟨rfl, 0, (q2 hoo.1).2.2 rfl b' hspare⟩
              · exact ⟨rfl, (hown hoo).2 b' hb'⟩
            · simp only [Bool.and_eq_true] at hoo
              simp only [spareB] at hs'
              split at hs'
              · obtain rfl : b = b' := by simpa using hs'
                exact ⟨rfl, 0, (q2 hoo.1).2.2 rfl b hspare⟩
              · simp at hs'
            · rcases hf with hf | ⟨_, _, hf, _⟩
              · exact g3 j (by rw [hmul] at hj; omega) hj' hf
              · omega
        · cases i with
          | succ i => simp [AV.acs, V.acs] at hi
          | zero =>
            simp only [spareB] at hs'
            split at hs'
            · obtain rfl : b = b' := by simpa using hs'
              refine ⟨⟨c1, hbx⟩, fun κ av' _ hk hon i' ac' hi' hc' => c3 κ av' hk hon i' ac' hi' hc', fun i' ac' hi' _ _ => ?_⟩
              cases i' with
              | zero => rfl
              | succ i' => simp [AV.acs, V.acs] at hi'
            · simp at hs'
        · obtain ⟨rfl, i, hi⟩ := hbb
          obtain ⟨d1, d2, d3, d4⟩ := k4 i b' hi
          exact ⟨d1, by simpa using d2, fun κ i' _ => d3 κ i', fun i' hh => hh.1.symm⟩
    · -- a new row
      have hgt : cp < es.length + es2.length := by omega
      have hneed : es.length + es2.length ≤ maxLen := hlen2
      have h63 : es.length + es2.length ≤ 9223372036854775807 := by unfold maxLen at hneed; omega
      have hge := grownCap_ge w (es.length + es2.length) cp e
      have hgm : grownCap w (es.length + es2.length) cp e ≤ maxLen := grownCap_le_maxLen w _ cp e hneed
      have hlen' : (es.length + es2.length) * iz.bytes ≤ 140737488355328 := by rw [hi3]; exact hlen
      have hfin : ∀ cur : Array Value, cur.toList = vs1 ++ vs2 ++ (Builtin.zeroCells z.cells (grownCap w (es.length + es2.length) cp e - (es.length + es2.length))).toList →
          Rel E ⟨put m2 (3 * d) (.val (.one (.v (.sl wd (es ++ es2)) true (o1 && o2))))⟩ (a.put (some d) (.slice (some ⟨w.heap.size, 0, none⟩) (es.length + es2.length) (grownCap w (es.length + es2.length) cp e))) (w.drew.alloc (.cells cur e)) := by
        intro cur hcur
        refine h.row d hlt t3 (Below.drewAlloc w _) (heap_alloc_new w.drew _) (by simp) (by simp) hvl ?_ hge hgm ?_ hwd hrr hown
        · rw [hcur, ← hvl]; exact List.take_left
        · have : cur.size = cur.toList.length := by simp
          rw [this, hcur, List.length_append, hvl]
          have e2 : (Builtin.zeroCells z.cells (grownCap w (es.length + es2.length) cp e - (es.length + es2.length))).toList.length = (grownCap w (es.length + es2.length) cp e - (es.length + es2.length)) * wd := by
            rw [Array.length_toList, size_zeroCells, hz3]
          rw [e2, ← Nat.add_mul]; congr 1; omega
      cases A with
      | none =>
        have hes : es = [] := by
          rcases alt1 with rfl | ⟨b', o', he2, _⟩
          · have h0 : es.length * wd = 0 := by simpa using hl1.symm
            rcases Nat.mul_eq_zero.1 h0 with h0 | h0
            · exact List.length_eq_zero_iff.1 h0
            · omega
          · simp at he2
        subst hes
        obtain ⟨rfl, _⟩ := rr1.nil_len
        obtain rfl : cp = 0 := by
          rcases hsp with hsp | ⟨b, oo, cur, t0, hA, _⟩
          · simpa using hsp
          · simp at hA
        have hr := run_append_nil (P := E.P) w t o.type e iz z hu hi1 hz2 ⟨bx, ox, none⟩ es2.length cx vs2 (by rw [hi2]; exact hl2) lx.cells_add (by omega) (by simp at h63; omega) (by simp at hlen'; omega)
        refine wp_of_run (hex _ _ (by simpa using hr)) ?_
        rw [hd]
        have := hfin _ (by simp : (vs2.toArray ++ Builtin.zeroCells z.cells (grownCap w es2.length 0 e - es2.length)).toList = _)
        simpa using this
      | some ad =>
        have holds : ∀ j v, vs1[j]? = some v → w.cell? (ad.add j) = some v := by
          rcases alt1 with rfl | ⟨b', o', he2, hl', _⟩
          · intro j v hj; simp at hj
          · obtain rfl : ad = ⟨b', o', none⟩ := by simpa using he2
            exact hl'.cells_add
        have hr := run_append_grow (P := E.P) w t o.type e iz z hu hi1 hz2 ad es.length cp vs1 (by rw [hi2]; exact hl1) holds ⟨bx, ox, none⟩ es2.length cx vs2 (by rw [hi2]; exact hl2) lx.cells_add hgt (by omega) (growslice_fits hgt hlen')
        refine wp_of_run (hex _ _ hr) ?_
        rw [hd]
        exact hfin _ (by simp)
end Go.RF
