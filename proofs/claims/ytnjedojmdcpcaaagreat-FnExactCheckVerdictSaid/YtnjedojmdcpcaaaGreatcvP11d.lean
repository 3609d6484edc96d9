/- The functions of this seat, as that machine runs them. -/
import Derived.Test.YtnjedojmdcpcaaaGreatcvP11c
set_option linter.unusedVariables false
set_option linter.unusedSimpArgs false
namespace Go.Q.S
open Go Go.Q Go.Proofs
theorem runIL (d:DfM) (hd:DfG d):∀ (n:Nat) (t:Tm) (S:List Tm) (R:List (Nat × List Int)) (f:Nat),Gt d.op t->t.nodes<=60->R.length+n=f->f<=200->S.length<=R.length+1->rn ⟨295,0,1⟩ [.int (f:Int),.sl (d.so.map sRow),.sl (d.op.map OpM.row),.sl (d.ru.map RuM.row),.sl (d.st.map StM.row),.int 0,.int 0,.int 0,.str e0,.int 0,.int t.k,.int t.n,.str t.s,.sl (S.map Tm.row),.sl (R.map rdRow),.sl [],.sl (t.as.map Tm.row)]=some (0,[.int (runF d n t).o,.int (runF d n t).t.k,.int (runF d n t).t.n,.str (runF d n t).t.s,.int ((R.length+(runF d n t).rd.length:Nat):Int),.sl ((S++(runF d n t).st).map Tm.row),.sl ((R++(runF d n t).rd).map rdRow),.sl ((runF d n t).t.as.map Tm.row)]):=by
 intro n;induction n with
 | zero =>
  intro t S R f ht hn hR hf hS;have h1:=r170 d hd t ht hn [] (by simp; omega)
  have h2:=r259 t (small_of t (by omega))
  simp only [List.map_nil] at h1;have e1:((R.length:Int)=(f:Int)):=by omega
  rw [e295_0_1];cases hx:nx d t with
  | none =>
   rw [hx] at h1;simp only [h1,nrR,nv0,nvS,dvI,dvB,dvS,dvL,Option.bind_some,Bool.not_false,cond_true,show decide ((1:Int)=0)=false from rfl,h2,List.length_map,runF_none hx,List.append_nil,List.length_nil,Nat.add_zero]
  | some x =>
   rw [hx] at h1;simp only [h1,nrR,nv0,nvS,dvI,dvB,dvS,dvL,Option.bind_some,Bool.not_true,Bool.not_false,cond_true,cond_false,show decide ((2:Int)=0)=false from rfl,h2,List.length_map,e1,decide_true,runF_zero hx,List.append_nil,List.length_nil,Nat.add_zero]
 | succ n ih =>
  intro t S R f ht hn hR hf hS;have h1:=r170 d hd t ht hn [] (by simp; omega)
  have h2:=r259 t (small_of t (by omega))
  simp only [List.map_nil] at h1;have e1:¬((R.length:Int)=(f:Int)):=by omega
  rw [e295_0_1];cases hx:nx d t with
  | none =>
   rw [hx] at h1;simp only [h1,nrR,nv0,nvS,dvI,dvB,dvS,dvL,Option.bind_some,Bool.not_false,cond_true,show decide ((1:Int)=0)=false from rfl,h2,List.length_map,runF_none hx,List.append_nil,List.length_nil,Nat.add_zero]
  | some x =>
   rw [hx] at h1;have h3:=r330 d hd t ht hn x.1 x.2 hx;obtain ⟨_,_,_,_,_,_,_,_,_,_,_,hg,hgn,_⟩:=step_good hd ht hn hx;cases hv:(stepT d t x.1 x.2).valid with
   | false =>
    rw [hv] at h3;simp only [h1,nrR,List.nil_append,h3,nv0,nvS,dvI,dvB,dvS,dvL,Option.bind_some,Bool.not_true,Bool.not_false,cond_true,cond_false,show decide ((3:Int)=0)=false from rfl,h2,List.length_map,e1,decide_false,runF_bad hx hv,List.append_nil,List.length_nil,Nat.add_zero]
   | true =>
    rw [hv] at h3;have h4:=r259 (stepT d t x.1 x.2) (small_of _ (by omega))
    have h5:=ih (stepT d t x.1 x.2) (S++[stepT d t x.1 x.2]) (R++[x]) f hg (valid_nodes hv) (by simp; omega) hf (by simp; omega)
    simp only [List.map_append,List.map_cons,List.map_nil,Tm.row_eq,rdRow,List.length_append,List.length_cons,List.length_nil,Nat.zero_add] at h5;have ea:R.length+1+(runF d n (stepT d t x.1 x.2)).rd.length=R.length+((runF d n (stepT d t x.1 x.2)).rd.length+1):=by omega
    have b1:Nat.ble (S.length+1) M63=true:=nb (by omega)
    have b2:Nat.ble (R.length+1) M63=true:=nb (by omega)
    simp only [h1,nrR,List.nil_append,h3,nv0,nvS,dvI,dvB,dvS,dvL,Option.bind_some,Bool.not_true,Bool.not_false,cond_true,cond_false,decide_true,h4,List.length_map,e1,decide_false,List.length_cons,List.length_nil,Nat.zero_add,b1,b2,h5,runF_ok hx hv,List.length_append];simp only [List.map_append,List.map_cons,List.map_nil,Tm.row_eq,rdRow,List.append_assoc,List.cons_append,List.nil_append,List.length_cons,ea]
theorem r295 (d:DfM) (hb:DfB d) (t:Tm) (hw:Wt t) (hn:t.nodes<=2097152) (f:Int):rn ⟨295,0,0⟩ [.sl (d.so.map sRow),.sl (d.op.map OpM.row),.sl (d.ru.map RuM.row),.sl (d.st.map StM.row),.int t.k,.int t.n,.str t.s,.sl (t.as.map Tm.row),.int f]=some (0,runD (runT d t f) t):=by
 have h1:=r329 d hb t hw hn;rw [e295_0_0];unfold runT;by_cases f1:0<=f
 · by_cases f2:f<=200
   · have q1:¬ f<0:=by omega
     have q2:¬ 200<f:=by omega
     simp only [q1,q2,decide_false,cond_false,h1,nv0,nvS,dvI,dvB,dvS,dvL,Option.bind_some];cases hc:cfg d t with
     | false=>simp [runD]
     | true =>
      obtain ⟨hd,ht,hn60⟩:=cfg_of hb hw hc;have h2:=r259 t (small_of t (by omega))
      have h3:=runIL d hd f.toNat t [t] [] f.toNat ht hn60 (by simp) (by omega) (by simp)
      have ef:((f.toNat:Nat):Int)=f:=by omega
      simp only [ef,List.map_cons,List.map_nil,Tm.row_eq,List.length_nil,Nat.zero_add,List.nil_append] at h3;rw [if_pos ⟨f1,f2,rfl⟩];simp only [Bool.not_true,cond_false,h2,nv0,nvS,dvI,dvB,dvS,dvL,Option.bind_some,h3,Nat.beq_refl,cond_true,cond_false,runD,List.cons_append,List.nil_append,List.map_cons,Tm.row_eq]
   · have q1:¬ f<0:=by omega
     have q2:200<f:=by omega
     rw [if_neg (by omega)]
     simp only [q1,q2,decide_true,decide_false,cond_true,cond_false,runD]
 · have q1:f<0:=by omega
   rw [if_neg (by omega)]
   simp only [q1,decide_true,cond_true,runD]
theorem runSL (d:DfM) (hd:DfG d):∀ (n:Nat) (t:Tm) (S:List Tm) (R:List (Nat × List Int)) (f:Nat),Gt d.op t->t.nodes<=60->R.length+n=f->f<=200->S.length<=R.length->rn ⟨216,0,1⟩ [.int (f:Int),.sl (d.so.map sRow),.sl (d.op.map OpM.row),.sl (d.ru.map RuM.row),.sl (d.st.map StM.row),.int 1,.int t.k,.int t.n,.str t.s,.int (R.length:Int),.sl (t.as.map Tm.row),.sl (R.map rdRow),.sl (S.map Tm.row)]=some (0,[.int (runF d n t).o,.int (runF d n t).t.k,.int (runF d n t).t.n,.str (runF d n t).t.s,.int ((R.length+(runF d n t).rd.length:Nat):Int),.sl ((runF d n t).t.as.map Tm.row),.sl ((R++(runF d n t).rd).map rdRow),.sl ((S++t::(runF d n t).st).map Tm.row)]):=by
 intro n;induction n with
 | zero =>
  intro t S R f ht hn hR hf hS;have h1:=r104 d hd t ht hn;have e1:((R.length:Int)=(f:Int)):=by omega
  have b1:Nat.ble (S.length+1) M63=true:=nb (by omega)
  have hi:inb (S.length:Int) (S.length+1)=true:=by simp [inb]; omega
  have ho:=over_last' (S.map Tm.row) t.k t.n 0 0 t.s ⟨#[]⟩ (t.as.map Tm.row) [];rw [List.length_map] at ho;rw [e216_0_1];cases hx:nx d t with
  | none =>
   rw [hx] at h1;simp only [h1,nrS,nv0,nvS,dvI,dvB,dvS,dvL,Option.bind_some,Bool.not_false,cond_true,List.length_map,List.length_append,List.length_cons,List.length_nil,Nat.zero_add,b1,hi,Int.toNat_natCast,ho,runF_none hx,List.append_nil,Nat.add_zero,List.map_append,List.map_cons,List.map_nil,Tm.row_eq]
  | some x =>
   rw [hx] at h1;simp only [h1,nrS,nv0,nvS,dvI,dvB,dvS,dvL,Option.bind_some,Bool.not_true,cond_true,cond_false,List.length_map,List.length_append,List.length_cons,List.length_nil,Nat.zero_add,b1,hi,Int.toNat_natCast,ho,e1,decide_true,runF_zero hx,List.append_nil,Nat.add_zero,List.map_append,List.map_cons,List.map_nil,Tm.row_eq]
 | succ n ih =>
  intro t S R f ht hn hR hf hS;have h1:=r104 d hd t ht hn;have e1:¬((R.length:Int)=(f:Int)):=by omega
  have b1:Nat.ble (S.length+1) M63=true:=nb (by omega)
  have b2:Nat.ble (R.length+1) M63=true:=nb (by omega)
  have hi:inb (S.length:Int) (S.length+1)=true:=by simp [inb]; omega
  have ho:=over_last' (S.map Tm.row) t.k t.n 0 0 t.s ⟨#[]⟩ (t.as.map Tm.row) [];have hw:IntKind.i64.wrap ((R.length:Int)+1)=((R.length+1:Nat):Int):=IntWalk.i64_in _ (by omega)
  rw [List.length_map] at ho;rw [e216_0_1];cases hx:nx d t with
  | none =>
   rw [hx] at h1;simp only [h1,nrS,nv0,nvS,dvI,dvB,dvS,dvL,Option.bind_some,Bool.not_false,cond_true,List.length_map,List.length_append,List.length_cons,List.length_nil,Nat.zero_add,b1,hi,Int.toNat_natCast,ho,runF_none hx,List.append_nil,Nat.add_zero,List.map_append,List.map_cons,List.map_nil,Tm.row_eq]
  | some x =>
   rw [hx] at h1;have h3:=r294 d hd t ht hn x.1 x.2 hx;obtain ⟨_,_,_,_,_,_,_,_,_,_,_,hg,hgn,_⟩:=step_good hd ht hn hx;cases hv:(stepT d t x.1 x.2).valid with
   | false =>
    rw [hv] at h3;simp only [h1,nrS,h3,nv0,nvS,dvI,dvB,dvS,dvL,Option.bind_some,Bool.not_true,Bool.not_false,cond_true,cond_false,List.length_map,List.length_append,List.length_cons,List.length_nil,Nat.zero_add,b1,hi,Int.toNat_natCast,ho,e1,decide_false,runF_bad hx hv,List.append_nil,Nat.add_zero,List.map_append,List.map_cons,List.map_nil,Tm.row_eq]
   | true =>
    rw [hv] at h3;have h5:=ih (stepT d t x.1 x.2) (S++[t]) (R++[x]) f hg (valid_nodes hv) (by simp; omega) hf (by simp; omega)
    simp only [List.map_append,List.map_cons,List.map_nil,Tm.row_eq,rdRow,List.length_append,List.length_cons,List.length_nil,Nat.zero_add] at h5;have ea:R.length+1+(runF d n (stepT d t x.1 x.2)).rd.length=R.length+((runF d n (stepT d t x.1 x.2)).rd.length+1):=by omega
    simp only [h1,nrS,h3,nv0,nvS,dvI,dvB,dvS,dvL,Option.bind_some,Bool.not_true,cond_true,cond_false,List.length_map,List.length_append,List.length_cons,List.length_nil,Nat.zero_add,b1,b2,hi,hw,Int.toNat_natCast,ho,e1,decide_false,h5,runF_ok hx hv];simp only [List.map_append,List.map_cons,List.map_nil,Tm.row_eq,rdRow,List.append_assoc,List.cons_append,List.nil_append,List.length_cons,ea]
theorem r216 (d:DfM) (hb:DfB d) (t:Tm) (hw:Wt t) (f:Int) (f1:0<=f) (f2:f<=200) (hc:cfg d t=true):rn ⟨216,0,0⟩ [.sl (d.so.map sRow),.sl (d.op.map OpM.row),.sl (d.ru.map RuM.row),.sl (d.st.map StM.row),.int t.k,.int t.n,.str t.s,.sl (t.as.map Tm.row),.int f]=some (0,allD (runF d f.toNat t) t):=by
 obtain ⟨hd,ht,hn60⟩:=cfg_of hb hw hc;have h2:=r188 t (small_of t (by omega))
 have h3:=runSL d hd f.toNat t [] [] f.toNat ht hn60 (by simp) (by omega) (by simp)
 have ef:((f.toNat:Nat):Int)=f:=by omega
 simp only [ef,List.map_nil,List.length_nil,Nat.zero_add,List.nil_append,Int.natCast_zero] at h3;rw [e216_0_0];simp only [h2,nv0,nvS,dvI,dvB,dvS,dvL,Option.bind_some,h3,Nat.beq_refl,cond_true,cond_false,allD]
end Go.Q.S
