/- The functions of this seat, as that machine runs them. -/
import Derived.Test.YthlngiieofkmiaaGreatqP14
import Derived.Test.YthlngiieofkmiaaGreatM20
set_option linter.unusedVariables false
set_option linter.unusedSimpArgs false
namespace Go.Q.S
open Go Go.Q Go.Proofs
theorem symI (d : DfM) (hb : DfB d) (vars : List ByteArray) (hv : vars.length <= 1048576) (hvs : ∀ x ∈ vars,x.size <= maxLen) (t : Tm) (hw : Wt t) (hn : t.nodes <= 1048577) (cs : List Int) (hcs : cs.length <= 1048576) : rn ⟨87,0,0⟩ [.sl (d.so.map sRow),.sl (d.op.map OpM.row),.sl (d.ru.map RuM.row),.sl (d.st.map StM.row),.sl (vars.map sRow),.int t.k,.int t.n,.str t.s,.sl (t.as.map Tm.row),.sl (cs.map iRow)] = some (0,[.bool (symC d vars t cs)]) := by
 have hl1 : ∀ n i,i + n = vars.length -> rn ⟨87,0,1⟩ [.sl (vars.map sRow),.int (vars.length : Int),.int (i : Int),.sl (d.so.map sRow),.sl (d.op.map OpM.row),.sl (d.ru.map RuM.row),.sl (d.st.map StM.row),.sl (vars.map sRow),.int t.k,.int t.n,.str t.s,.sl (t.as.map Tm.row),.sl (cs.map iRow)] = bif (vars.drop i).all isVr then some (0,[.sl (d.so.map sRow),.sl (d.op.map OpM.row),.sl (d.ru.map RuM.row),.sl (d.st.map StM.row),.sl (vars.map sRow),.int t.k,.int t.n,.str t.s,.sl (t.as.map Tm.row),.sl (cs.map iRow)]) else some (1,[]) := by
  intro n
  induction n with
  | zero =>
   intro i hi
   obtain rfl : i = vars.length := by omega
   rw [e87_0_1]
   simp only [List.length_map,Int.ofNat_lt,Nat.lt_irrefl,decide_false,cond_false,List.drop_length,List.all_nil,cond_true]
  | succ n ih =>
   intro i hi
   have hlt : i < vars.length := by omega
   rw [e87_0_1,List.drop_eq_getElem_cons hlt]
   have h1 := r160 vars[i] (hvs _ (List.getElem_mem hlt))
   simp only [List.length_map,Int.ofNat_lt,hlt,decide_true,cond_true,inbN,Int.toNat_natCast,rowAt_map hlt,wrap_succ hlt (maxB (by omega)),sRow,nv0,nvS,dvI,dvB,dvS,dvL,Option.bind_some,h1,ih (i + 1) (by omega),List.all_cons]
   cases isVr vars[i] <;> rfl
 have h1 := hl1 vars.length 0 (by omega)
 simp only [List.drop_zero,Int.natCast_zero] at h1
 have hl3 : ∀ n i,i + n = cs.length -> rn ⟨87,0,3⟩ [.sl (cs.map iRow),.int (cs.length : Int),.int (i : Int),.sl (vars.map sRow),.int t.k,.int t.n,.str t.s,.sl (t.as.map Tm.row),.sl (cs.map iRow)] = bif incC vars.length (prv cs i) (cs.drop i) then some (0,[]) else some (1,[]) := by
  intro n
  induction n with
  | zero =>
   intro i hi
   obtain rfl : i = cs.length := by omega
   rw [e87_0_3]
   simp only [List.length_map,Int.ofNat_lt,Nat.lt_irrefl,decide_false,cond_false,List.drop_length,incC,cond_true]
  | succ n ih =>
   intro i hi
   have hlt : i < cs.length := by omega
   have h1 := r163 vars.length cs[i]
   have hp : prv cs (i + 1) = some cs[i] := by simp [prv,hlt]
   have h2 := ih (i + 1) (by omega)
   rw [hp] at h2
   rw [e87_0_3,List.drop_eq_getElem_cons hlt]
   simp only [List.length_map,Int.ofNat_lt,hlt,decide_true,cond_true,inbN,Int.toNat_natCast,rowAt_map hlt,wrap_succ hlt (maxB (by omega)),iRow,nv0,nvS,dvI,dvB,dvS,dvL,Option.bind_some,h1,incC,h2]
   cases isC vars.length cs[i] with
   | false => rfl
   | true =>
    rcases i with _ | j
    · simp [prv]
    · have hj : j < cs.length := by omega
      have q1 : (0 : Int) < ((j + 1 : Nat) : Int) := by omega
      have hw : IntKind.i64.wrap (((j + 1 : Nat) : Int) - 1) = (j : Int) := by rw [IntWalk.i64_in _ (by omega)]; omega
      simp only [q1,hw,inbN,hj,decide_true,cond_true,cond_false,Bool.not_true,Bool.true_and,Int.toNat_natCast,rowAt_map hj,iRow,nv0,nvS,dvI,dvB,dvS,dvL,Option.bind_some,prv,List.getElem?_eq_getElem hj]
      by_cases q : cs[j + 1] <= cs[j] <;> simp [q]
 have h8 := hl3 cs.length 0 (by omega)
 simp only [List.drop_zero,Int.natCast_zero,prv] at h8
 have h2 := r158 d hb
 have h3 := r159 vars hv
 have h4 := r161 t (by omega) hw
 have h5 := r162 t hn vars (maxB (by omega))
 have h6 := r88 vars hv
 have h7 := r89 (d.so.map sRow) d.op hb.op (wv vars) (by unfold wv; rw [List.length_map]; omega) t hw
 rw [e87_0_0]
 simp only [List.length_map,h2,h3,nv0,nvS,dvI,dvB,dvS,dvL,Option.bind_some]
 unfold symC symV
 cases d.valid
 · rfl
 · by_cases q1 : vars.length <= 3
   · have q1' : ¬ ((3 : Int) < (vars.length : Int)) := by omega
     simp only [q1,q1',decide_true,decide_false,cond_false,Bool.true_and,Bool.not_true]
     cases dis vars
     · rfl
     · simp only [Bool.not_true,cond_false,h1,Bool.true_and]
       cases vars.all isVr
       · rfl
       · simp only [cond_true,nv0,nvS,dvI,dvB,dvS,dvL,Option.bind_some,Nat.beq_refl,cond_true,cond_false,h4,h5,h6,h7,Bool.true_and]
         cases t.valid
         · rfl
         · cases within t vars
           · rfl
           · by_cases q2 : sortT d.op (wv vars) t = e0
             · simp [q2]
             · simp only [q2,Bool.not_true,Bool.not_false,cond_false,decide_false,List.length_map,h8,Bool.true_and]
               cases incC vars.length none cs <;> rfl
   · have q1' : ((3 : Int) < (vars.length : Int)) := by omega
     simp [q1,q1']
theorem symS (d : DfM) (hb : DfB d) (vars : List ByteArray) (hv : vars.length <= 1048576) (hvs : ∀ x ∈ vars,x.size <= maxLen) (t : Tm) (hw : Wt t) (hn : t.nodes <= 1048577) (cs : List Int) (hcs : cs.length <= 1048576) : rn ⟨78,0,0⟩ [.sl (d.so.map sRow),.sl (d.op.map OpM.row),.sl (d.ru.map RuM.row),.sl (d.st.map StM.row),.sl (vars.map sRow),.int t.k,.int t.n,.str t.s,.sl (t.as.map Tm.row),.sl (cs.map iRow)] = some (0,[.bool (symC d vars t cs)]) := by
 have hl1 : ∀ n i,i + n = cs.length -> rn ⟨78,0,1⟩ [.int (i : Int),.sl (d.so.map sRow),.sl (d.op.map OpM.row),.sl (d.ru.map RuM.row),.sl (d.st.map StM.row),.sl (vars.map sRow),.int t.k,.int t.n,.str t.s,.sl (t.as.map Tm.row),.sl (cs.map iRow)] = bif incC vars.length (prv cs i) (cs.drop i) then some (0,[.sl (d.so.map sRow),.sl (d.op.map OpM.row),.sl (d.ru.map RuM.row),.sl (d.st.map StM.row),.sl (vars.map sRow),.int t.k,.int t.n,.str t.s,.sl (t.as.map Tm.row),.sl (cs.map iRow)]) else some (1,[]) := by
  intro n
  induction n with
  | zero =>
   intro i hi
   obtain rfl : i = cs.length := by omega
   rw [e78_0_1]
   simp only [List.length_map,Int.ofNat_lt,Nat.lt_irrefl,decide_false,cond_false,List.drop_length,incC,cond_true]
  | succ n ih =>
   intro i hi
   have hlt : i < cs.length := by omega
   have h1 := r150 vars.length
   have hp : prv cs (i + 1) = some cs[i] := by simp [prv,hlt]
   have h2 := ih (i + 1) (by omega)
   rw [hp] at h2
   rw [e78_0_1,List.drop_eq_getElem_cons hlt]
   simp only [List.length_map,Int.ofNat_lt,hlt,decide_true,cond_true,inbN,Int.toNat_natCast,rowAt_map hlt,wrap_succ hlt (maxB (by omega)),iRow,nv0,nvS,dvI,dvB,dvS,dvL,Option.bind_some,h1,rIn,wcnt,incC,h2]
   cases isC vars.length cs[i] with
   | false => rfl
   | true =>
    rcases i with _ | j
    · simp [prv]
    · have hj : j < cs.length := by omega
      have q1 : (0 : Int) < ((j + 1 : Nat) : Int) := by omega
      have hw : IntKind.i64.wrap (((j + 1 : Nat) : Int) - 1) = (j : Int) := by rw [IntWalk.i64_in _ (by omega)]; omega
      simp only [q1,hw,inbN,hj,decide_true,cond_true,cond_false,Bool.not_true,Bool.true_and,Int.toNat_natCast,rowAt_map hj,iRow,nv0,nvS,dvI,dvB,dvS,dvL,Option.bind_some,prv,List.getElem?_eq_getElem hj]
      by_cases q : cs[j + 1] <= cs[j] <;> simp [q]
 have h1 := hl1 cs.length 0 (by omega)
 simp only [List.drop_zero,Int.natCast_zero,prv] at h1
 have h2 := r145 d hb
 have h3 := r146 vars hv hvs
 have h4 := r147 t (by omega) hw
 have hnt := names_nodes t
 have hsl := srtN_len t.names
 have h5 := r149 t hn
 have h5' := r148 (srtN t.names) vars (by omega) (maxB (by omega))
 have h6 := r79 vars hv
 have h7 := r81 (d.so.map sRow) d.op hb.op (wv vars) (by unfold wv; rw [List.length_map]; omega) t hw
 rw [e78_0_0]
 simp only [List.length_map,h1,h2,h3,h4,h5,h5',h6,h7,nv0,nvS,dvI,dvB,dvS,dvL,Option.bind_some,Nat.beq_refl,cond_true,cond_false]
 unfold symC symV
 cases d.valid <;> try rfl
 cases decide (vars.length <= 3) <;> try rfl
 cases dis vars <;> try rfl
 cases vars.all isVr <;> try rfl
 cases t.valid <;> try rfl
 have hw := wo_srt' t vars
 cases hw2 : within t vars with
 | true =>
  rw [hw2] at hw
  have : (wo (srtN t.names) vars).length = 0 := hw.2 rfl
  cases incC vars.length none cs with
  | false => simp [this]; rfl
  | true =>
   simp only [this,Int.natCast_zero,Int.lt_irrefl,decide_false,cond_false,cond_true,Bool.not_true,nv0,nvS,dvI,dvB,dvS,dvL,Option.bind_some,Nat.beq_refl,cond_true,cond_false,h6,h7]
   simp
 | false =>
  rw [hw2] at hw
  have : ¬ (wo (srtN t.names) vars).length = 0 := fun h => by have := hw.1 h; simp at this
  have : 0 < (wo (srtN t.names) vars).length := by omega
  simp [this]
theorem rContI (l : List Int) (hl : l.length <= maxLen) (x : Int) : rn ⟨131,0,0⟩ [.sl (l.map iRow),.int x] = some (0,[.bool (hasI l x)]) := by
 have key : ∀ n i,i + n = l.length -> (hasI (l.drop i) x = false /\ rn ⟨196,0,1⟩ [.sl (l.map iRow),.int x,.int (l.length : Int),.int (i : Int)] = some (0,[])) \/ (hasI (l.drop i) x = true /\ ∃ j : Nat,rn ⟨196,0,1⟩ [.sl (l.map iRow),.int x,.int (l.length : Int),.int (i : Int)] = some (1,[.int (j : Int)])) := by
  intro n
  induction n with
  | zero =>
   intro i hi
   obtain rfl : i = l.length := by omega
   rw [e196_0_1]
   simp only [List.length_map,Int.ofNat_lt,Nat.lt_irrefl,decide_false,cond_false,List.drop_length]
   exact .inl ⟨rfl,trivial⟩
  | succ n ih =>
   intro i hi
   have hlt : i < l.length := by omega
   have := ih (i + 1) (by omega)
   rw [e196_0_1,List.drop_eq_getElem_cons hlt]
   simp only [List.length_map,Int.ofNat_lt,hlt,decide_true,cond_true,inbN,Int.toNat_natCast,rowAt_map hlt,wrap_succ hlt hl,iRow,nv0,nvS,dvI,dvB,dvS,dvL,Option.bind_some,hasI,List.any_cons]
   by_cases h1 : l[i] = x
   · right
     refine ⟨by simp [h1],i,by simp [h1]⟩
   · have h1' : ¬ x = l[i] := fun e => h1 e.symm
     simpa [h1,h1',hasI] using this
 have h := key l.length 0 (by omega)
 simp only [List.drop_zero,Int.natCast_zero] at h
 rw [e131_0_0,e196_0_0]
 simp only [List.length_map]
 rcases h with ⟨h1,h2⟩ | ⟨h1,j,h2⟩
 · rw [h2,h1]; rfl
 · rw [h2,h1]
   simp only [nv0,nvS,dvI,dvB,dvS,dvL,Option.bind_some,Nat.beq_refl,cond_true,cond_false,show Nat.beq 1 0 = false from rfl]
   have : (0 : Int) <= (j : Int) := by omega
   simp [this]
theorem r129 (l : List Int) (hl : l.length <= maxLen) (x : Int) : rn ⟨129,0,0⟩ [.sl (l.map iRow),.int x] = some (0,[.bool (hasI l x)]) := by
 have key : ∀ n i,i + n = l.length -> rn ⟨129,0,1⟩ [.sl (l.map iRow),.int x,.int (i : Int)] = bif hasI (l.drop i) x then some (1,[]) else some (0,[]) := by
  intro n
  induction n with
  | zero =>
   intro i hi
   obtain rfl : i = l.length := by omega
   rw [e129_0_1]
   simp only [List.length_map,Int.ofNat_lt,Nat.lt_irrefl,decide_false,cond_false,List.drop_length,hasI,List.any_nil,cond_false]
  | succ n ih =>
   intro i hi
   have hlt : i < l.length := by omega
   rw [e129_0_1,List.drop_eq_getElem_cons hlt]
   simp only [List.length_map,Int.ofNat_lt,hlt,decide_true,cond_true,inbN,Int.toNat_natCast,rowAt_map hlt,wrap_succ hlt hl,iRow,nv0,nvS,dvI,dvB,dvS,dvL,Option.bind_some,ih (i + 1) (by omega)]
   simp only [hasI,List.any_cons]
   by_cases h1 : l[i] = x <;> simp [h1]
 have h := key l.length 0 (by omega)
 simp only [List.drop_zero,Int.natCast_zero] at h
 rw [e129_0_0,h]
 cases hasI l x <;> rfl
theorem eqLoop {F : Nat -> R} {a b : List ByteArray} (hlen : a.length = b.length) {A B : R} (hs : ∀ i (hi : i < a.length),F i = bif decide (a[i] = b[i]'(by omega)) then F (i + 1) else B) (he : F a.length = A) : F 0 = bif decide (a = b) then A else B := by
 have key : ∀ n i,i + n = a.length -> F i = bif decide (a.drop i = b.drop i) then A else B := by
  intro n
  induction n with
  | zero =>
   intro i hi
   obtain rfl : i = a.length := by omega
   rw [he,List.drop_length,List.drop_eq_nil_of_le (by omega)]; rfl
  | succ n ih =>
   intro i hi
   have hlt : i < a.length := by omega
   rw [hs i hlt,ih (i + 1) (by omega),List.drop_eq_getElem_cons hlt,List.drop_eq_getElem_cons (show i < b.length by omega)]
   by_cases h1 : a[i] = b[i]'(by omega)
   · simp only [h1,List.cons.injEq,true_and,decide_true,cond_true]
   · simp only [h1,List.cons.injEq,false_and,decide_false,cond_false]
 simpa using key a.length 0 (by omega)
theorem rEqualS (a b : List ByteArray) (ha : a.length <= 1048576) : rn ⟨130,0,0⟩ [.sl (a.map sRow),.sl (b.map sRow)] = some (0,[.bool (eqLs a b)]) := by
 rw [e130_0_0]
 simp only [List.length_map]
 by_cases hlen : a.length = b.length
 · have hf := eqLoop (F := fun i => rn ⟨130,0,1⟩ [.sl (a.map sRow),.sl (b.map sRow),.int (a.length : Int),.int (i : Int)]) hlen (A := some (0,[])) (B := some (1,[])) (fun i hi => by
    have hi' : i < b.length := by omega
    rw [e130_0_1]
    simp only [List.length_map,Int.ofNat_lt,hi,decide_true,cond_true,inbN,Int.toNat_natCast,rowAt_map hi,wrap_succ hi (maxB (by omega)),hi',rowAt_map hi',sRow,nv0,nvS,dvI,dvB,dvS,dvL,Option.bind_some]
    by_cases h1 : a[i] = b[i] <;> simp [h1]) (by
    rw [e130_0_1]
    simp only [List.length_map,Int.ofNat_lt,Nat.lt_irrefl,decide_false,cond_false,List.drop_length])
   simp only [Int.natCast_zero] at hf
   have e : ((a.length : Int) = (b.length : Int)) := by omega
   simp only [e,decide_true,Bool.not_true,cond_false]
   rw [<- e,hf]
   unfold eqLs
   cases decide (a = b) <;> rfl
 · have e : ¬ ((a.length : Int) = (b.length : Int)) := by omega
   have : ¬ a = b := fun h => hlen (by rw [h])
   simp [e,eqLs,this]
theorem r128 (a b : List ByteArray) (ha : a.length <= 1048576) : rn ⟨128,0,0⟩ [.sl (a.map sRow),.sl (b.map sRow)] = some (0,[.bool (eqLs a b)]) := by
 rw [e128_0_0]
 simp only [List.length_map]
 by_cases hlen : a.length = b.length
 · have hf := eqLoop (F := fun i => rn ⟨128,0,1⟩ [.sl (a.map sRow),.sl (b.map sRow),.int (i : Int)]) hlen (A := some (0,[])) (B := some (1,[])) (fun i hi => by
    have hi' : i < b.length := by omega
    rw [e128_0_1]
    simp only [List.length_map,Int.ofNat_lt,hi,decide_true,cond_true,inbN,Int.toNat_natCast,rowAt_map hi,wrap_succ hi (maxB (by omega)),hi',rowAt_map hi',sRow,nv0,nvS,dvI,dvB,dvS,dvL,Option.bind_some]
    by_cases h1 : a[i] = b[i] <;> simp [h1]) (by
    rw [e128_0_1]
    simp only [List.length_map,Int.ofNat_lt,Nat.lt_irrefl,decide_false,cond_false,List.drop_length])
   simp only [Int.natCast_zero] at hf
   have e : ((a.length : Int) = (b.length : Int)) := by omega
   simp only [e,decide_true,Bool.not_true,cond_false]
   rw [hf]
   unfold eqLs
   cases decide (a = b) <;> rfl
 · have e : ¬ ((a.length : Int) = (b.length : Int)) := by omega
   have : ¬ a = b := fun h => hlen (by rw [h])
   simp [e,eqLs,this]
def CmQ (x y : SyM) (l : List Int) (s : CmR) (q : Nat × List D) : Prop := q = (0,[.int 0,.int 0,.int 0,.int 0,.str e0,.int 0,.int 0,.str e0,.int (cmpF x y l s).k,.int (cmpF x y l s).c,.int (cmpF x y l s).a.k,.int (cmpF x y l s).a.n,.str (cmpF x y l s).a.s,.int (cmpF x y l s).b.k,.int (cmpF x y l s).b.n,.str (cmpF x y l s).b.s,.sl [],.sl [],.sl ((cmpF x y l s).a.as.map Tm.row),.sl ((cmpF x y l s).b.as.map Tm.row)]) \/ q = (1,cmD (cmpF x y l s))
theorem r61 (x y : SyM) (hx : SyB x) (hy : SyB y) : rn ⟨61,0,0⟩ (x.row ++ y.row) = some (0,cmD (cmpR x y)) := by
 have h1 := symI x.d hx.d x.v hx.v hx.vs x.t hx.w hx.n x.c hx.c
 have h2 := symI y.d hy.d y.v hy.v hy.vs y.t hy.w hy.n y.c hy.c
 have h3 := rEqualS x.v y.v hx.v
 have hxc := hx.c
 have hyc := hy.c
 have hxn := hx.n
 have hyn := hy.n
 have hlp : ∀ n i (s : CmR),i + n = x.c.length -> ∃ q,rn ⟨61,0,1⟩ ([.sl (x.c.map iRow),.int (x.c.length : Int),.int (i : Int)] ++ (x.row ++ (y.row ++ [.int 0,.int 0,.int 0,.int 0,.str e0,.int 0,.int 0,.str e0,.int s.k,.int s.c,.int s.a.k,.int s.a.n,.str s.a.s,.int s.b.k,.int s.b.n,.str s.b.s,.sl [],.sl [],.sl (s.a.as.map Tm.row),.sl (s.b.as.map Tm.row)]))) = some q /\ CmQ x y (x.c.drop i) s q := by
  unfold SyM.row
  simp only [List.cons_append,List.nil_append]
  intro n
  induction n with
  | zero =>
   intro i s hi
   obtain rfl : i = x.c.length := by omega
   rw [e61_0_1]
   simp only [List.length_map,Int.ofNat_lt,Nat.lt_irrefl,decide_false,cond_false,List.drop_length,cmpF]
   exact ⟨_,rfl,.inl rfl⟩
  | succ n ih =>
   intro i s hi
   have hlt : i < x.c.length := by omega
   have a1 := rContI y.c (maxB (by omega)) x.c[i]
   have a2 := r132 x.v x.t (small_of _ hxn) (x.c.map iRow) x.c[i]
   have a3 := r132 y.v y.t (small_of _ hyn) (y.c.map iRow) x.c[i]
   have n2 := S.instR_nodes (vars := x.v) (t := x.t) x.c[i]
   have n3 := S.instR_nodes (vars := y.v) (t := y.t) x.c[i]
   have a4 := r34 x.d hx.d _ (wt_instR (vars := x.v) hx.w x.c[i]) (by omega) 200
   have a5 := r34 y.d hy.d _ (wt_instR (vars := y.v) hy.w x.c[i]) (by omega) 200
   have i1 := ih (i + 1) s (by omega)
   have i2 := ih (i + 1) ⟨3,x.c[i],tm0,tm0⟩ (by omega)
   simp only [tm0,Tm.k_mk,Tm.n_mk,Tm.s_mk,Tm.as_mk,List.map_nil] at i2
   rw [e61_0_1,List.drop_eq_getElem_cons hlt]
   simp only [List.length_map,Int.ofNat_lt,hlt,decide_true,cond_true,inbN,Int.toNat_natCast,rowAt_map hlt,wrap_succ hlt (maxB (by omega)),iRow,nv0,nvS,dvI,dvB,dvS,dvL,Option.bind_some,a1]
   unfold CmQ
   simp only [cmpF]
   cases hasI y.c x.c[i] with
   | false =>
    simp only [Bool.not_false,cond_true,Bool.false_eq_true,if_false]
    exact i1
   | true =>
    simp only [Bool.not_true,cond_false,a2,a3,a4,a5,nv0,nvS,dvI,dvB,dvS,dvL,Option.bind_some,if_true]
    have i3 : ∃ q,(bif decide (s.k = 2) then rn ⟨61,0,1⟩ ([.sl (x.c.map iRow),.int (x.c.length : Int),.int ((i + 1 : Nat) : Int)] ++ (x.row ++ (y.row ++ [.int 0,.int 0,.int 0,.int 0,.str e0,.int 0,.int 0,.str e0,.int 3,.int x.c[i],.int 0,.int 0,.str e0,.int 0,.int 0,.str e0,.sl [],.sl [],.sl [],.sl []]))) else rn ⟨61,0,1⟩ ([.sl (x.c.map iRow),.int (x.c.length : Int),.int ((i + 1 : Nat) : Int)] ++ (x.row ++ (y.row ++ [.int 0,.int 0,.int 0,.int 0,.str e0,.int 0,.int 0,.str e0,.int s.k,.int s.c,.int s.a.k,.int s.a.n,.str s.a.s,.int s.b.k,.int s.b.n,.str s.b.s,.sl [],.sl [],.sl (s.a.as.map Tm.row),.sl (s.b.as.map Tm.row)])))) = some q /\ CmQ x y (x.c.drop (i + 1)) (if s.k = 2 then ⟨3,x.c[i],tm0,tm0⟩ else s) q := by
     unfold SyM.row
     simp only [List.cons_append,List.nil_append]
     by_cases q : s.k = 2
     · simp only [q,decide_true,cond_true,if_true]; exact i2
     · simp only [q,decide_false,cond_false,if_false]; exact i1
    unfold SyM.row at i3
    simp only [List.cons_append,List.nil_append] at i3
    cases hp : runT x.d (S.instR x.v x.t x.c[i]) 200 with
    | none =>
     simp only [rtD,nv0,nvS,dvI,dvB,dvS,dvL,Option.bind_some,show decide ((0 : Int) = 1) = false from rfl,cond_false]
     exact i3
    | some p =>
     cases hq : runT y.d (S.instR y.v y.t x.c[i]) 200 with
     | none =>
      simp only [rtD,nv0,nvS,dvI,dvB,dvS,dvL,Option.bind_some,show decide ((0 : Int) = 1) = false from rfl,cond_false,Bool.not_false,cond_true]
      cases decide (p.o = 1) <;> exact i3
     | some q =>
      obtain ⟨gd,_⟩ := runT_good hx.d (wt_instR hx.w x.c[i]) hp
      have he := r104 p.t q.t (small_of _ (by have := gd.tn; omega))
      simp only [rtD,nv0,nvS,dvI,dvB,dvS,dvL,Option.bind_some,he]
      by_cases o1 : p.o = 1
      · by_cases o2 : q.o = 1
        · simp only [o1,o2,decide_true,cond_true,Bool.not_true,cond_false,and_self,if_true]
          cases eqb p.t.row q.t.row with
          | true => exact i1
          | false => exact ⟨_,rfl,.inr rfl⟩
        · simp only [o1,o2,decide_true,decide_false,cond_true,cond_false,Bool.not_false,and_false,if_false]; exact i3
      · simp only [o1,decide_false,cond_false,false_and,if_false]
        cases decide (q.o = 1) <;> exact i3
 obtain ⟨q,h4,h5⟩ := hlp x.c.length 0 ⟨2,0,tm0,tm0⟩ (by omega)
 unfold SyM.row at h4 ⊢
 simp only [List.cons_append,List.nil_append,Int.natCast_zero,tm0,Tm.k_mk,Tm.n_mk,Tm.s_mk,Tm.as_mk,List.map_nil,List.drop_zero] at h4 h5 ⊢
 rw [e61_0_0]
 simp only [h1,h2,h3,nv0,nvS,dvI,dvB,dvS,dvL,Option.bind_some,List.length_map]
 unfold cmpR
 cases symC x.d x.v x.t x.c with
 | false => rfl
 | true =>
  cases symC y.d y.v y.t y.c with
  | false => rfl
  | true =>
   by_cases hv : x.v = y.v
   · have e : eqLs x.v y.v = true := by simp [eqLs,hv]
     simp only [e,Bool.not_true,cond_false,if_true,if_pos hv,h4]
     rcases h5 with h5 | h5
     · subst h5; rfl
     · subst h5; rfl
   · have e : eqLs x.v y.v = false := by simp [eqLs,hv]
     simp only [e,Bool.not_true,Bool.not_false,cond_true,cond_false,if_true,if_neg hv]; rfl
theorem r60 (x y : SyM) (hx : SyB x) (hy : SyB y) : rn ⟨60,0,0⟩ (x.row ++ y.row) = some (0,cmD (cmpR x y)) := by
 have h1 := symS x.d hx.d x.v hx.v hx.vs x.t hx.w hx.n x.c hx.c
 have h2 := symS y.d hy.d y.v hy.v hy.vs y.t hy.w hy.n y.c hy.c
 have h3 := r128 x.v y.v hx.v
 have hxc := hx.c
 have hyc := hy.c
 have hxn := hx.n
 have hyn := hy.n
 have hlp : symC x.d x.v x.t x.c = true -> symC y.d y.v y.t y.c = true -> ∀ n i (s : CmR),i + n = x.c.length -> ∃ q,rn ⟨60,0,1⟩ ([.int (i : Int)] ++ (x.row ++ (y.row ++ [.int 0,.int 0,.int 0,.int 0,.str e0,.int 0,.int 0,.str e0,.int s.k,.int s.c,.int s.a.k,.int s.a.n,.str s.a.s,.int s.b.k,.int s.b.n,.str s.b.s,.sl [],.sl [],.sl (s.a.as.map Tm.row),.sl (s.b.as.map Tm.row)]))) = some q /\ CmQ x y (x.c.drop i) s q := by
  unfold SyM.row
  simp only [List.cons_append,List.nil_append]
  intro sx sy n
  simp only [symC,Bool.and_eq_true] at sx sy
  induction n with
  | zero =>
   intro i s hi
   obtain rfl : i = x.c.length := by omega
   rw [e60_0_1]
   simp only [List.length_map,Int.ofNat_lt,Nat.lt_irrefl,decide_false,cond_false,List.drop_length,cmpF]
   exact ⟨_,rfl,.inl rfl⟩
  | succ n ih =>
   intro i s hi
   have hlt : i < x.c.length := by omega
   have a1 := r129 y.c (maxB (by omega)) x.c[i]
   have cx := incC_isC x.c none sx.2 _ (List.getElem_mem hlt)
   have a2 := r124 x.v x.t (small_of _ hxn) x.c[i]
   have a3 := r124 y.v y.t (small_of _ hyn) x.c[i]
   have fx := cfg_inst sx.1 cx
   have wx := wt_instR (vars := x.v) hx.w x.c[i]
   have wy := wt_instR (vars := y.v) hy.w x.c[i]
   rw [<- instR_C cx] at a2 fx
   have a4 := r98 x.d hx.d _ wx 200 (by decide) (by decide) fx
   have i1 := ih (i + 1) s (by omega)
   have i2 := ih (i + 1) ⟨3,x.c[i],tm0,tm0⟩ (by omega)
   simp only [tm0,Tm.k_mk,Tm.n_mk,Tm.s_mk,Tm.as_mk,List.map_nil] at i2
   rw [e60_0_1,List.drop_eq_getElem_cons hlt]
   simp only [List.length_map,Int.ofNat_lt,hlt,decide_true,cond_true,inbN,Int.toNat_natCast,rowAt_map hlt,wrap_succ hlt (maxB (by omega)),iRow,nv0,nvS,dvI,dvB,dvS,dvL,Option.bind_some,a1]
   unfold CmQ
   simp only [cmpF]
   cases hI : hasI y.c x.c[i] with
   | false =>
    simp only [Bool.not_false,cond_true,Bool.false_eq_true,if_false]
    exact i1
   | true =>
    have cy := incC_isC y.c none sy.2 x.c[i] (by simpa [hasI] using hI)
    have fy := cfg_inst sy.1 cy
    rw [<- instR_C cy] at a3 fy
    have a5 := r98 y.d hy.d _ wy 200 (by decide) (by decide) fy
    have hp := runT_cfg fx
    have hq := runT_cfg fy
    rw [hp,hq]
    simp only [Bool.not_true,cond_false,a2,a3,a4,a5,allD,show Int.toNat 200 = 200 from rfl,nv0,nvS,dvI,dvB,dvS,dvL,Option.bind_some,if_true]
    have i3 : ∃ q,(bif decide (s.k = 2) then rn ⟨60,0,1⟩ ([.int ((i + 1 : Nat) : Int)] ++ (x.row ++ (y.row ++ [.int 0,.int 0,.int 0,.int 0,.str e0,.int 0,.int 0,.str e0,.int 3,.int x.c[i],.int 0,.int 0,.str e0,.int 0,.int 0,.str e0,.sl [],.sl [],.sl [],.sl []]))) else rn ⟨60,0,1⟩ ([.int ((i + 1 : Nat) : Int)] ++ (x.row ++ (y.row ++ [.int 0,.int 0,.int 0,.int 0,.str e0,.int 0,.int 0,.str e0,.int s.k,.int s.c,.int s.a.k,.int s.a.n,.str s.a.s,.int s.b.k,.int s.b.n,.str s.b.s,.sl [],.sl [],.sl (s.a.as.map Tm.row),.sl (s.b.as.map Tm.row)])))) = some q /\ CmQ x y (x.c.drop (i + 1)) (if s.k = 2 then ⟨3,x.c[i],tm0,tm0⟩ else s) q := by
     unfold SyM.row
     simp only [List.cons_append,List.nil_append]
     by_cases q : s.k = 2
     · simp only [q,decide_true,cond_true,if_true]; exact i2
     · simp only [q,decide_false,cond_false,if_false]; exact i1
    unfold SyM.row at i3
    simp only [List.cons_append,List.nil_append] at i3
    obtain ⟨gd,_⟩ := runT_good hx.d wx hp
    generalize runF x.d 200 (S.instR x.v x.t x.c[i]) = p at gd ⊢
    generalize runF y.d 200 (S.instR y.v y.t x.c[i]) = q
    have he := r99 p.t q.t (small_of _ (by have := gd.tn; omega))
    simp only [he,nv0,nvS,dvI,dvB,dvS,dvL,Option.bind_some]
    by_cases o1 : p.o = 1
    · by_cases o2 : q.o = 1
      · simp only [o1,o2,decide_true,cond_true,and_self,if_true]
        cases eqb p.t.row q.t.row with
        | true => exact i1
        | false => exact ⟨_,rfl,.inr rfl⟩
      · simp only [o1,o2,decide_true,decide_false,cond_true,cond_false,and_false,if_false]; exact i3
    · simp only [o1,decide_false,cond_false,false_and,if_false]
      exact i3
 have hlp0 := fun sx sy => hlp sx sy x.c.length 0 ⟨2,0,tm0,tm0⟩ (by omega)
 unfold SyM.row at hlp0 ⊢
 simp only [List.cons_append,List.nil_append,Int.natCast_zero,tm0,Tm.k_mk,Tm.n_mk,Tm.s_mk,Tm.as_mk,List.map_nil,List.drop_zero] at hlp0 ⊢
 rw [e60_0_0]
 simp only [h1,h2,h3,nv0,nvS,dvI,dvB,dvS,dvL,Option.bind_some,List.length_map]
 unfold cmpR
 cases sx : symC x.d x.v x.t x.c with
 | false => rfl
 | true =>
  cases sy : symC y.d y.v y.t y.c with
  | false => rfl
  | true =>
   obtain ⟨q,h4,h5⟩ := hlp0 sx sy
   by_cases hv : x.v = y.v
   · have e : eqLs x.v y.v = true := by simp [eqLs,hv]
     simp only [e,Bool.not_true,cond_false,if_true,if_pos hv,h4]
     rcases h5 with h5 | h5
     · subst h5; rfl
     · subst h5; rfl
   · have e : eqLs x.v y.v = false := by simp [eqLs,hv]
     simp only [e,Bool.not_true,Bool.not_false,cond_true,cond_false,if_true,if_neg hv]; rfl
end Go.Q.S
