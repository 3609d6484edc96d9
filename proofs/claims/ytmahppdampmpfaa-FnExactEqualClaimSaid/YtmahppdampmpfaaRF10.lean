/- A logic over the walk in which memory is hidden, part 10: stores into boxes. -/
import Derived.Test.YtmahppdampmpfaaRF9
set_option linter.unusedVariables false
namespace Go.RF
open Go.RowKit (Below)

theorem AVle.put_of {m m' : List (Nat × AV)} (h : ∀ κ av, look m κ = some av → look m' κ = some av) : Le ⟨m⟩ ⟨m'⟩ := fun κ av hk => ⟨av, h κ av hk, AVle.refl av⟩

/-- Cells laid into a box. -/
theorem RelG.storeBox {E : Env} {G : Gh} {m m' : List (Nat × AV)} {a : Act} {w : World} (h : RelG E G ⟨m⟩ a w) (k off : Nat) {cs acs : List AC} {vals : List Value} {S : Nat → Nat → Prop} {src : Nat → Option (Nat × Nat)}
    (t : Taken G w m m' acs vals S src) (hb : look m' (3 * k + 1) = some (.val (.agg cs))) (hl : off + acs.length ≤ cs.length) :
    ∃ cur ty, w.heap[G.bm k]? = some (.cells cur ty (0, 0)) ∧ cur.size = cs.length ∧
      Rel E ⟨put m' (3 * k + 1) (.val (.agg (spl off acs cs)))⟩ a (w.setRow (G.bm k) (cur.toList.take off ++ vals ++ cur.toList.drop (off + vals.length)).toArray) := by
  obtain ⟨h1, h2, h3, h4⟩ := t.facts h
  obtain ⟨cs', ty, he, r1, r2, r3⟩ := h1.boxes k _ hb
  obtain rfl : cs = cs' := by simpa using he
  simp only [] at r1 r2
  have hlv := t.len
  refine ⟨_, ty, r1, by simp, ?_⟩
  have hdel : ∀ κ av, look (del m' (3 * k + 1)) κ = some av → look m' κ = some av ∧ κ ≠ 3 * k + 1 := fun κ av hk => by
    rw [look_del] at hk
    split at hk
    · simp at hk
    · exact ⟨hk, by assumption⟩
  have h5 := h1.weaken (st' := ⟨del m' (3 * k + 1)⟩) (AVle.put_of fun κ av hk => (hdel κ av hk).1) _ (fun _ _ _ => id) (fun _ _ _ _ _ _ _ _ => id)
  have hcapb : ∀ κ av, look (del m' (3 * k + 1)) κ = some av → av.on → ∀ i ac, av.acs[i]? = some ac → ac.cap = true → spareB (G.val κ i) ≠ some (G.bm k) := fun κ av hk hon i ac hi hc hs =>
    (h1.capk κ av (hdel κ av hk).1 hon i ac hi hc _ hs).2 k _ hb rfl
  have hbxk : ∀ k' x, look (del m' (3 * k + 1)) (3 * k' + 1) = some x → G.bm k' ≠ G.bm k := fun k' x hx hbm => by
    have := hdel _ _ hx
    have := h1.inj k' k x _ this.1 hb hbm
    subst this; omega
  generalize hcur : (List.map (G.val (3 * k + 1)) (List.range' 0 cs.length)).toArray = cur at *
  have hcs : cur.size = cs.length := by rw [← hcur]; simp
  generalize hnew : (cur.toList.take off ++ vals ++ cur.toList.drop (off + vals.length)) = new
  have hnl : new.length = cs.length := by rw [← hnew]; simp [hcs]; omega
  have h6 := h5.touch (w' := w.setRow (G.bm k) new.toArray) (G.bm k) (by simp) rfl rfl rfl (fun j hj => setRow_other w _ j _ hj) (fun o hf => absurd hf (r2 o)) r3.1 hbxk hcapb
  have hval : ∀ i, i < cs.length → new[i]? = some (if off ≤ i ∧ i < off + acs.length then vals.getD (i - off) undef else G.val (3 * k + 1) i) := by
    intro i hi
    have e : new = spl off vals cur.toList := by rw [← hnew, spl_eq]; simp [hcs]; omega
    rw [e, spl_at _ _ _ _ (by simp [hcs]; omega), hlv]
    split
    · rename_i hh
      have : i - off < vals.length := by omega
      simp [List.getD, this]
    · rw [← hcur]; simp [hi]
  have hbl : w.heap.size = (w.setRow (G.bm k) new.toArray).heap.size := by simp
  have hcell : ∀ b o, G.F b o → (w.setRow (G.bm k) new.toArray).cell? ⟨b, o, none⟩ = w.cell? ⟨b, o, none⟩ := fun b o hf => by
    by_cases hbb : b = G.bm k
    · subst hbb; exact absurd hf (r2 o)
    · exact World.cell?_of_block (w := w) (setRow_other w _ b _ hbb)
  have hup : ∀ k' x, look (del m' (3 * k + 1)) (3 * k' + 1) = some x → ∃ y, look m (3 * k' + 1) = some y := fun k' x hx => t.drop.lookbox (hdel _ _ hx).1
  have hat : ∀ i ac, (spl off acs cs)[i]? = some ac → (off ≤ i ∧ i < off + acs.length ∧ acs[i - off]? = some ac) ∨ (¬ (off ≤ i ∧ i < off + acs.length) ∧ cs[i]? = some ac) := fun i ac hi => by
    rw [spl_at _ _ _ _ hl] at hi
    split at hi
    · rename_i hh; exact .inl ⟨hh.1, hh.2, hi⟩
    · rename_i hh; exact .inr ⟨hh, hi⟩
  have hkb : ∀ i ac, cs[i]? = some ac → ac.cap = true → ∀ b, spareB (G.val (3 * k + 1) i) = some b → b ≠ G.bm k := fun i ac hi hc b hs hbe =>
    (h1.capk (3 * k + 1) _ hb trivial i ac hi hc b hs).2 k _ hb hbe.symm
  have htk : ∀ i ac, acs[i]? = some ac → ac.cap = true → ∀ b, spareB (vals.getD i undef) = some b → b ≠ G.bm k := fun i ac hi hc b hs hbe => by
    obtain ⟨y, hy⟩ := t.drop.lookbox hb
    exact (h3 i ac hi hc b hs).1.2 k y hy hbe.symm
  refine ⟨_, (h6.box k (G.bm k) (spl off acs cs) ty (fun i => if off ≤ i ∧ i < off + acs.length then vals.getD (i - off) undef else G.val (3 * k + 1) i)
    (fun i b => if off ≤ i ∧ i < off + acs.length then ownOf G src acs.length (i - off) b else (G.own (3 * k + 1) i b ∧ ¬ S (3 * k + 1) i)) ?_ (fun o => r2 o) r3 (fun hlt => h1.pbf k hlt)
    (fun k' x _ hx => hbxk k' x hx) (fun κ av _ hk hon i ac hi hc => hcapb κ av hk hon i ac hi hc) (fun κ av _ hk i o hi _ => rfl) (fun i ac hi => ?_) (fun i ac hi hc b hs => ?_) (fun i b ho => ?_)).weaken (AVle.put_of fun κ av hk => ?_) _ (fun _ _ _ => id) (fun _ _ _ _ _ _ _ _ => id)⟩
  · rw [setRow_heap w _ cur _ ty (0, 0) r1]
    congr 2
    rw [spl_length]
    have hl2 : new = (List.range' 0 cs.length).map fun i => if off ≤ i ∧ i < off + acs.length then vals.getD (i - off) undef else G.val (3 * k + 1) i := by
      apply List.ext_getElem?
      intro i
      by_cases hi : i < cs.length
      · rw [hval i hi]; simp [hi]
      · rw [List.getElem?_eq_none (by omega), List.getElem?_eq_none (by simp; omega)]
    rw [hl2]
  · have hF : ∀ c : Prop, G.F = G.F := fun _ => rfl
    rcases hat i ac hi with ⟨hh1, hh2, hi'⟩ | ⟨hn, hi'⟩
    · have e1 : (off ≤ i ∧ i < off + acs.length) := ⟨hh1, hh2⟩
      simp only [e1, and_self, if_true]
      refine (h2 _ ac hi').mono (fun _ _ => id) hcell (fun k' he => ?_) (fun _ => id) (fun hc b hs hlt => ⟨setRow_other w _ b _ (htk _ ac hi' hc b hs), fun _ => id⟩)
      by_cases hk' : k' = k
      · subst hk'; rw [upd_same]
      · rw [upd_ne _ _ _ _ hk']
    · simp only [hn, if_false]
      refine (h1.cells (3 * k + 1) _ hb trivial i ac hi').mono (fun _ _ => id) hcell (fun k' he => ?_) (fun _ => id) (fun hc b hs hlt => ⟨setRow_other w _ b _ (hkb i ac hi' hc b hs), fun _ => id⟩)
      by_cases hk' : k' = k
      · subst hk'; rw [upd_same]
      · rw [upd_ne _ _ _ _ hk']
  · rcases hat i ac hi with ⟨hh1, hh2, hi'⟩ | ⟨hn, hi'⟩
    · have e1 : (off ≤ i ∧ i < off + acs.length) := ⟨hh1, hh2⟩
      simp only [e1, and_self, if_true] at hs
      obtain ⟨⟨q1, q2⟩, q3, q4⟩ := h3 _ ac hi' hc b hs
      refine ⟨⟨q1, htk _ ac hi' hc b hs, fun k' x _ hx => ?_⟩, fun κ av' _ hk hon i' ac' hi2 hc2 => q3 κ av' (hdel κ av' hk).1 hon i' ac' hi2 hc2, fun i' ac' hi2 hc2 hs2 => ?_⟩
      · obtain ⟨y, hy⟩ := hup k' x hx; exact q2 k' y hy
      · rcases hat i' ac' hi2 with ⟨g1, g2, hi2'⟩ | ⟨g, hi2'⟩
        · have e2 : (off ≤ i' ∧ i' < off + acs.length) := ⟨g1, g2⟩
          simp only [e2, and_self, if_true] at hs2
          have := q4 _ ac' hi2' hc2 hs2
          omega
        · simp only [g, if_false] at hs2
          exact absurd hs2 (q3 (3 * k + 1) _ hb trivial i' ac' hi2' hc2)
    · simp only [hn, if_false] at hs
      obtain ⟨q1, q2⟩ := h1.capk (3 * k + 1) _ hb trivial i ac hi' hc b hs
      refine ⟨⟨q1, hkb i ac hi' hc b hs, fun k' x _ hx => q2 k' x (hdel _ _ hx).1⟩, fun κ av' hκ hk hon i' ac' hi2 hc2 hs2 => ?_, fun i' ac' hi2 hc2 hs2 => ?_⟩
      · exact hκ (h1.capd (3 * k + 1) _ κ av' hb trivial (hdel κ av' hk).1 hon i ac i' ac' hi' hi2 hc hc2 b hs hs2).1.symm
      · rcases hat i' ac' hi2 with ⟨g1, g2, hi2'⟩ | ⟨g, hi2'⟩
        · have e2 : (off ≤ i' ∧ i' < off + acs.length) := ⟨g1, g2⟩
          simp only [e2, and_self, if_true] at hs2
          exact absurd hs ((h3 _ ac' hi2' hc2 b hs2).2.1 (3 * k + 1) _ hb trivial i ac hi' hc)
        · simp only [g, if_false] at hs2
          exact (h1.capd (3 * k + 1) _ (3 * k + 1) _ hb trivial hb trivial i ac i' ac' hi' hi2' hc hc2 b hs hs2).2
  · split at ho
    · rename_i hh
      obtain ⟨q1, q2, q3, q4⟩ := h4 _ b ho
      refine ⟨q1, hbl ▸ q2, fun κ i' _ => q3 κ i', fun i' ho' => ?_⟩
      split at ho'
      · have := q4 _ ho'; omega
      · exact absurd ho' (q3 _ _)
    · rename_i hh
      have ho1 := h1.own0 (3 * k + 1) i b ho
      refine ⟨ho1.1, hbl ▸ ho1.2, fun κ i' hκ ho' => hκ (h1.ownd _ _ _ _ _ ho' ho).1, fun i' ho' => ?_⟩
      split at ho'
      · exact absurd ho ((h4 _ b ho').2.2.1 _ _)
      · exact (h1.ownd _ _ _ _ _ ho ho').2
  · simp only [look_put] at hk ⊢
    split at hk
    · rename_i hh; rw [if_pos hh]; exact hk
    · rename_i hh; rw [if_neg hh]
      rw [look_del, if_neg hh]; exact hk

theorem op_store_box {E : Env} {m m' : List (Nat × AV)} {o : Oper} {x y : Operand} {t : TypeId} {n : Nat} {g tk : Bool} {k off wd : Nat} {v : V} {cs : List AC} (ho : o.op = .store t x y) (hd : o.dst = none)
    (hx : opd 0 m x = some (.one (.bp k off))) (ht : ty E.P t = some (n, g)) (hy : acq tk wd m y = some (v, m')) (hn : v.acs.length = n)
    (hb : look m' (3 * k + 1) = some (.val (.agg cs))) (hl : off + n ≤ cs.length) : OpOK E m o (put m' (3 * k + 1) (.val (.agg (spl off v.acs cs)))) := by
  intro a w Q ⟨G, h⟩
  obtain ⟨val, own, hs, hc⟩ := opd_ok h hx
  have he : a.eval x = .pointer (some ⟨G.bm k, off, none⟩) := hs.trans (hc 0 _ rfl)
  obtain ⟨vals, S, src, ht', hu⟩ := acq_taken h hy
  obtain ⟨hcl, hone⟩ := cells_of h ht' hu
  obtain ⟨cur, ty', r1, r2, r3⟩ := h.storeBox k off ht' hb (by omega)
  obtain ⟨i, d, h1, h2, h3, h4⟩ := ty_spec ht
  have hlen := ht'.len
  have hrun := run_storeCells_at (P := E.P) (G.bm k) off ty' vals 0 cur w r1 (by omega) hone
  simp only [Nat.add_zero] at hrun
  have hex : (execOp a.eval o).run E.P w = .ok .skip (w.setRow (G.bm k) (cur.toList.take off ++ vals ++ cur.toList.drop (off + vals.length)).toArray) := by
    simp [execOp, ho, Instr.storeAt, Instr.sureAddr, he, storeVar, hcl, sizeOf, typeInfo, h1, h3, hlen, hn, hrun, pure]
  unfold Oper.wp
  rw [hex]
  simp only [Oper.upon, hd, Act.put]
  exact r3
end Go.RF
