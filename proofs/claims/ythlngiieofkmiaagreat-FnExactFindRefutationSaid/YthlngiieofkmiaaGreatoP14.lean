/- The functions of this seat, as that machine runs them. -/
import Derived.Test.YthlngiieofkmiaaGreatoP12
import Derived.Test.YthlngiieofkmiaaGreatM19
set_option linter.unusedVariables false
set_option linter.unusedSimpArgs false
namespace Go.Q.S
open Go Go.Q Go.Proofs
theorem r132 (vars : List ByteArray) (t : Tm) (h : Small t) (cs : Rows) (c : Int) : rn ⟨132, 0, 0⟩ [.sl (vars.map sRow), .int t.k, .int t.n, .str t.s, .sl (t.as.map Tm.row), .sl cs, .int c] = some (0, [.int (S.instR vars t c).k, .int (S.instR vars t c).n, .str (S.instR vars t c).s, .bool (isC vars.length c), .sl ((S.instR vars t c).as.map Tm.row)]) := by
  have e1 := r163 vars.length c
  have e2 := r199 vars c
  have e3 := r198 (caseS vars c) (caseS_len vars c) (caseS_small vars c) t h
  have e4 := r197 _ (aS_small (caseS_small vars c) t h)
  rw [e132_0_0]
  simp only [List.length_map, e1, nv0, nvS, dvI, dvB, dvS, dvL, Option.bind_some]
  unfold S.instR
  cases hc : isC vars.length c with
  | false => rfl
  | true => simp only [Bool.not_true, cond_false, e2, e3, e4, nv0, nvS, dvI, dvB, dvS, dvL, Option.bind_some, if_true]; rfl
theorem r193 (vars : List ByteArray) (t : Tm) (h : Small t) (cs : Rows) (c : Int) : rn ⟨193, 0, 0⟩ [.sl (vars.map sRow), .int t.k, .int t.n, .str t.s, .sl (t.as.map Tm.row), .sl cs, .int c] = some (0, [.int (S.instR vars t c).k, .int (S.instR vars t c).n, .str (S.instR vars t c).s, .bool (isC vars.length c), .sl ((S.instR vars t c).as.map Tm.row)]) := by
  have e1 := r150 vars.length
  have e2 := r124 vars t h c
  rw [e193_0_0]
  simp only [List.length_map, e1, nv0, nvS, dvI, dvB, dvS, dvL, Option.bind_some, rIn, wcnt]
  unfold S.instR
  cases hc : isC vars.length c with
  | false => rfl
  | true => simp only [Bool.not_true, cond_false, e2, nv0, nvS, dvI, dvB, dvS, dvL, Option.bind_some, if_true]
theorem r195 (vars : List ByteArray) (l t : Tm) (h : Small t) (gs : Rows) (c : Int) : rn ⟨195, 0, 0⟩ [.sl (vars.map sRow), .int l.k, .int l.n, .str l.s, .sl (l.as.map Tm.row), .int t.k, .int t.n, .str t.s, .sl (t.as.map Tm.row), .sl gs, .int c] = some (0, [.int (S.instR vars t c).k, .int (S.instR vars t c).n, .str (S.instR vars t c).s, .sl ((S.instR vars t c).as.map Tm.row)]) := by
  have e1 := r132 vars t h [] c
  rw [e195_0_0]
  simp only [e1, nv0, nvS, dvI, dvB, dvS, dvL, Option.bind_some]
theorem r125 (vars : List ByteArray) (l t : Tm) (h : Small t) (gs : Rows) (c : Int) : rn ⟨125, 0, 0⟩ [.sl (vars.map sRow), .int l.k, .int l.n, .str l.s, .sl (l.as.map Tm.row), .int t.k, .int t.n, .str t.s, .sl (t.as.map Tm.row), .sl gs, .int c] = some (0, [.int (S.instR vars t c).k, .int (S.instR vars t c).n, .str (S.instR vars t c).s, .sl ((S.instR vars t c).as.map Tm.row)]) := by
  have e1 := r193 vars t h [] c
  rw [e125_0_0]
  simp only [e1, nv0, nvS, dvI, dvB, dvS, dvL, Option.bind_some]
theorem r127 (c : ClM) (hb : ClB c) (i : Int) : rn ⟨127, 0, 0⟩ [.sl (c.d.so.map sRow), .sl (c.d.op.map OpM.row), .sl (c.d.ru.map RuM.row), .sl (c.d.st.map StM.row), .sl (c.v.map sRow), .int (c.l).k, .int (c.l).n, .str (c.l).s, .sl ((c.l).as.map Tm.row), .int (c.r).k, .int (c.r).n, .str (c.r).s, .sl ((c.r).as.map Tm.row), .sl (c.g.map Gu.row), .int i] = some (0, [.bool (refB c.d (S.instR c.v c.l i) (S.instR c.v c.r i))]) := by
  have hls := small_of _ hb.ln
  have hrs := small_of _ hb.rn
  have hnl := S.instR_nodes (vars := c.v) (t := c.l) i
  have hln := hb.ln
  have hw := wt_instR (vars := c.v) hb.wl i
  have h1 := r132 c.v c.l hls [] i
  have h2 := r34 c.d hb.d _ hw (by omega) 200
  have h3 := r195 c.v c.l c.r hrs (c.g.map Gu.row) i
  have h4 := r26 c.d hb.d _ hw (by omega) (S.instR c.v c.r i) 200
  rw [e127_0_0]
  simp only [h1, nv0, nvS, dvI, dvB, dvS, dvL, Option.bind_some, h2, h3, h4]
  unfold refB
  cases runT c.d (S.instR c.v c.l i) 200 with
  | none => rfl
  | some r =>
    simp only [rtD, nv0, nvS, dvI, dvB, dvS, dvL, Option.bind_some]
    cases decide (r.o = 1) <;> rfl
theorem r54 (c : ClM) (hb : ClB c) : rn ⟨54, 0, 0⟩ c.row = some (0, refD (refF c)) := by
  have h1 := r20 c hb
  have h2 := r126 c.v hb.v c.l c.r (small_of _ hb.ln) c.g hb.g (fun g hg => ⟨(hb.ga g hg).ln, (hb.ga g hg).rn⟩)
  have hal := S.allC_len c.v c.g
  have hlp : ∀ n i, i + n = (allC c.v c.g).length → rn ⟨54, 0, 1⟩ [.int ((allC c.v c.g).length : Int), .int (i : Int), .sl (c.d.so.map sRow), .sl (c.d.op.map OpM.row), .sl (c.d.ru.map RuM.row), .sl (c.d.st.map StM.row), .sl (c.v.map sRow), .int (c.l).k, .int (c.l).n, .str (c.l).s, .sl ((c.l).as.map Tm.row), .int (c.r).k, .int (c.r).n, .str (c.r).s, .sl ((c.r).as.map Tm.row), .sl (c.g.map Gu.row), .sl ((allC c.v c.g).map S.nRow)] = match ((allC c.v c.g).drop i).find? (fun (j : Nat) => refB c.d (S.instR c.v c.l (j : Int)) (S.instR c.v c.r (j : Int))) with
      | some k => some (1, [.int (k : Int)])
      | none => some (0, []) := by
    generalize allC c.v c.g = cs at hal ⊢
    intro n
    induction n with
    | zero =>
      intro i hi
      obtain rfl : i = cs.length := by omega
      rw [e54_0_1]
      simp only [List.length_map, Int.ofNat_lt, Nat.lt_irrefl, decide_false, cond_false, List.drop_length, List.find?_nil]
    | succ n ih =>
      intro i hi
      have hlt : i < cs.length := by omega
      have h3 := r127 c hb (cs[i] : Int)
      rw [e54_0_1, List.drop_eq_getElem_cons hlt, List.find?_cons]
      simp only [List.length_map, Int.ofNat_lt, hlt, decide_true, cond_true, inbN, Int.toNat_natCast, rowAt_map hlt, wrap_succ hlt (maxB (by omega)), S.nRow, nv0, nvS, dvI, dvB, dvS, dvL, Option.bind_some, h3, ih (i + 1) (by omega)]
      cases refB c.d (S.instR c.v c.l (cs[i] : Int)) (S.instR c.v c.r (cs[i] : Int)) <;> rfl
  have h0 := hlp (allC c.v c.g).length 0 (by omega)
  simp only [List.drop_zero, Int.natCast_zero] at h0
  unfold ClM.row at h1 ⊢
  rw [e54_0_0]
  simp only [h1, nv0, nvS, dvI, dvB, dvS, dvL, Option.bind_some, h2, List.length_map, h0]
  unfold refF
  cases c.valid with
  | false => rfl
  | true =>
    simp only [Bool.not_true, cond_false, if_true]
    cases (allC c.v c.g).find? (fun (j : Nat) => refB c.d (S.instR c.v c.l (j : Int)) (S.instR c.v c.r (j : Int))) <;> rfl
theorem r123 (d : DfM) (hb : DfB d) (t : Tm) (hw : Wt t) (hc : cfg d t = true) (g : Tm) : rn ⟨123, 0, 0⟩ [.sl (d.so.map sRow), .sl (d.op.map OpM.row), .sl (d.ru.map RuM.row), .sl (d.st.map StM.row), .int t.k, .int t.n, .str t.s, .sl (t.as.map Tm.row), .int g.k, .int g.n, .str g.s, .sl (g.as.map Tm.row)] = some (0, [.bool (refB d t g)]) := by
  have h1 := r98 d hb t hw 200 (by decide) (by decide) hc
  obtain ⟨hd, ht, hn⟩ := cfg_of hb hw hc
  have hr := runT_cfg hc
  obtain ⟨gd, _⟩ := runT_good hb hw hr
  have key : ∀ l : List Tm, l.length ≤ 1048576 → (∀ x ∈ l, Small x) → ∀ (o k n : Int) (s : ByteArray) (m : Int) (a b : Rows), ∀ j i, i + j = l.length → rn ⟨123, 0, 1⟩ [.int (i : Int), .int g.k, .int g.n, .str g.s, .sl (g.as.map Tm.row), .int o, .int k, .int n, .str s, .int m, .sl a, .sl b, .sl (l.map Tm.row)] = bif ((l.drop i).any fun x => eqb x.row g.row) then some (1, []) else some (0, [.int o, .int k, .int n, .str s, .int m, .sl a, .sl b, .sl (l.map Tm.row)]) := by
    intro l hl hs o k n s m a b j
    induction j with
    | zero =>
      intro i hi
      obtain rfl : i = l.length := by omega
      rw [e123_0_1]
      simp only [List.length_map, Int.ofNat_lt, Nat.lt_irrefl, decide_false, cond_false, List.drop_length, List.any_nil, cond_false]
    | succ j ih =>
      intro i hi
      have hlt : i < l.length := by omega
      have he := r99 l[i] g (hs _ (List.getElem_mem hlt))
      rw [e123_0_1, List.drop_eq_getElem_cons hlt]
      simp only [List.any_cons]
      generalize eqb l[i].row g.row = b' at he ⊢
      have := ih (i + 1) (by omega)
      generalize ((l.drop (i + 1)).any fun x => eqb x.row g.row) = A at this ⊢
      simp only [List.length_map, Int.ofNat_lt, hlt, decide_true, cond_true, inbN, Int.toNat_natCast, rowAt_map hlt, wrap_succ hlt (maxB (by omega)), Tm.row_eq, nv0, nvS, dvI, dvB, dvS, dvL, Option.bind_some, he, this]
      cases b' <;> simp
  have hk := fun o k n s m a b => key (t :: (runF d 200 t).st) (by have := gd.sl; simp; omega) (fun x hx => by
    rcases List.mem_cons.1 hx with e | hx
    · subst e; exact small_of _ (by omega)
    · exact small_of _ (by have := (gd.s x hx).2; omega)) o k n s m a b _ 0 (Nat.zero_add _)
  simp only [Int.natCast_zero, List.drop_zero] at hk
  rw [e123_0_0, h1]
  unfold refB
  rw [hr]
  simp only [allD, show Int.toNat 200 = 200 from rfl, nv0, nvS, dvI, dvB, dvS, dvL, Option.bind_some, hk, reachR]
  cases (t :: (runF d 200 t).st).any fun x => eqb x.row g.row with
  | true => rw [Bool.not_true, Bool.and_false]; rfl
  | false => simp only [cond_false, nv0, nvS, dvI, dvB, dvS, dvL, Option.bind_some, Nat.beq_refl, cond_true, cond_false, Bool.not_false, Bool.and_true]
theorem r53 (c : ClM) (hb : ClB c) : rn ⟨53, 0, 0⟩ c.row = some (0, refD (refF c)) := by
  have h1 := r17 c hb
  have h2 := r122 c.v hb.v c.l c.r (small_of _ hb.ln) c.g hb.g (fun g hg => ⟨(hb.ga g hg).ln, (hb.ga g hg).rn⟩)
  have hal := S.allC_len c.v c.g
  have hlp : c.valid = true → ∀ n i, i + n = (allC c.v c.g).length → rn ⟨53, 0, 1⟩ [.int (i : Int), .sl (c.d.so.map sRow), .sl (c.d.op.map OpM.row), .sl (c.d.ru.map RuM.row), .sl (c.d.st.map StM.row), .sl (c.v.map sRow), .int (c.l).k, .int (c.l).n, .str (c.l).s, .sl ((c.l).as.map Tm.row), .int (c.r).k, .int (c.r).n, .str (c.r).s, .sl ((c.r).as.map Tm.row), .sl (c.g.map Gu.row), .int c.l.k, .int c.l.n, .str c.l.s, .sl (c.v.map sRow), .sl (c.l.as.map Tm.row), .sl ((allC c.v c.g).map S.nRow)] = match ((allC c.v c.g).drop i).find? (fun (j : Nat) => refB c.d (S.instR c.v c.l (j : Int)) (S.instR c.v c.r (j : Int))) with
      | some k => some (1, [.int (k : Int)])
      | none => some (0, []) := by
    intro hv
    simp only [ClM.valid, Bool.and_eq_true] at hv
    have hC : ∀ j ∈ allC c.v c.g, isC c.v.length (j : Int) = true := fun j hj => allC_isC hj
    generalize allC c.v c.g = cs at hal hC ⊢
    intro n
    induction n with
    | zero =>
      intro i hi
      obtain rfl : i = cs.length := by omega
      rw [e53_0_1]
      simp only [List.length_map, Int.ofNat_lt, Nat.lt_irrefl, decide_false, cond_false, List.drop_length, List.find?_nil]
    | succ n ih =>
      intro i hi
      have hlt : i < cs.length := by omega
      have hc := hC _ (List.getElem_mem hlt)
      have h3 := r124 c.v c.l (small_of _ hb.ln) (cs[i] : Int)
      rw [← instR_C hc] at h3
      have h4 := r125 c.v c.l c.r (small_of _ hb.rn) (c.g.map Gu.row) (cs[i] : Int)
      have hcf : cfg c.d (S.instR c.v c.l (cs[i] : Int)) = true := by rw [instR_C hc]; exact cfg_inst hv.1 hc
      have h5 := r123 c.d hb.d _ (wt_instR hb.wl (cs[i] : Int)) hcf (S.instR c.v c.r (cs[i] : Int))
      rw [e53_0_1, List.drop_eq_getElem_cons hlt, List.find?_cons]
      simp only [List.length_map, Int.ofNat_lt, hlt, decide_true, cond_true, inbN, Int.toNat_natCast, rowAt_map hlt, wrap_succ hlt (maxB (by omega)), S.nRow, nv0, nvS, dvI, dvB, dvS, dvL, Option.bind_some, h3, h4, h5, ih (i + 1) (by omega)]
      cases refB c.d (S.instR c.v c.l (cs[i] : Int)) (S.instR c.v c.r (cs[i] : Int)) <;> rfl
  unfold ClM.row at h1 ⊢
  rw [e53_0_0]
  simp only [h1, nv0, nvS, dvI, dvB, dvS, dvL, Option.bind_some, h2]
  unfold refF
  cases hv : c.valid with
  | false => rfl
  | true =>
    have h0 := hlp hv (allC c.v c.g).length 0 (by omega)
    simp only [List.drop_zero, Int.natCast_zero] at h0
    simp only [Bool.not_true, cond_false, if_true, h0]
    cases (allC c.v c.g).find? (fun (j : Nat) => refB c.d (S.instR c.v c.l (j : Int)) (S.instR c.v c.r (j : Int))) <;> rfl
end Go.Q.S
