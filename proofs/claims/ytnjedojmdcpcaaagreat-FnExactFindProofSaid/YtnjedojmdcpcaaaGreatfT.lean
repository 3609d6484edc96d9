/- The functions of this seat, as that machine runs them. -/
import Derived.Test.YtnjedojmdcpcaaaGreatfP1
import Derived.Test.YtnjedojmdcpcaaaGreatMA
set_option linter.unusedVariables false
set_option linter.unusedSimpArgs false
namespace Go.Q.S
open Go Go.Q Go.Proofs
theorem r259:∀ t:Tm,Small t->rn ⟨259,0,0⟩ [.int t.k,.int t.n,.str t.s,.sl (t.as.map Tm.row)]=some (0,[.int t.k,.int t.n,.str t.s,.sl (t.as.map Tm.row)]):=Tm.ind fun t ih h=>by
 have hl:=h.len;show rn _ _=_
 rw [e259_0_0];have hf:=map_loop (F:=fun i acc=>rn ⟨259,0,1⟩ [.sl (t.as.map Tm.row),.int ((t.as.map Tm.row)).length,.int (i:Int),.int 0,.int 0,.str (⟨#[]⟩:ByteArray),.int t.k,.int t.n,.str t.s,.sl [],.sl acc]) (xs:=t.as) Tm.row (K:=fun acc=>some (0,[.int (0),.int (0),.str ((⟨#[]⟩:ByteArray)),.int (t.k),.int (t.n),.str (t.s),.sl ([]),.sl (acc)])) (fun i hi acc ha=>?_) (fun acc=>?_)
 · simp only [Int.natCast_zero] at hf; rw [hf]; rfl
 · have hc:=ih _ (List.getElem_mem hi) (h.sub (List.getElem_mem hi))
   rw [e259_0_1];simp only [Int.toNat_natCast,rowAt_map hi,Tm.row_eq,List.length_map,inbN,hi,Int.ofNat_lt,decide_true,cond_true,nth,List.getD_cons_zero,List.getD_cons_succ,D.I,D.S,D.L,D.B,wrap_succ hi (by unfold maxLen; omega),hc,Option.bind_some,List.length_cons,List.length_nil]
   rw [show Nat.ble (acc.length+(0+1)) M63=true from Nat.ble_eq_true_of_le (by unfold M63; omega)]
   rfl
 · skip
   rw [e259_0_1];simp
theorem r188:∀ t:Tm,Small t->rn ⟨188,0,0⟩ [.int t.k,.int t.n,.str t.s,.sl (t.as.map Tm.row)]=some (0,[.int t.k,.int t.n,.str t.s,.sl (t.as.map Tm.row)]):=Tm.ind fun t ih h=>by
 have hl:=h.len;show rn _ _=_
 rw [e188_0_0];have hf:=map_loop (F:=fun i acc=>rn ⟨188,0,1⟩ [.int (i:Int),.int t.k,.int t.n,.str t.s,.sl (t.as.map Tm.row),.int 0,.int 0,.str (⟨#[]⟩:ByteArray),.sl acc,.sl []]) (xs:=t.as) Tm.row (K:=fun acc=>some (0,[.int (t.k),.int (t.n),.str (t.s),.sl ((t.as.map Tm.row)),.int (0),.int (0),.str ((⟨#[]⟩:ByteArray)),.sl (acc),.sl ([])])) (fun i hi acc ha=>?_) (fun acc=>?_)
 · simp only [Int.natCast_zero] at hf; rw [hf]; rfl
 · have hc:=ih _ (List.getElem_mem hi) (h.sub (List.getElem_mem hi))
   rw [e188_0_1];simp only [Int.toNat_natCast,rowAt_map hi,Tm.row_eq,List.length_map,inbN,hi,Int.ofNat_lt,decide_true,cond_true,nth,List.getD_cons_zero,List.getD_cons_succ,D.I,D.S,D.L,D.B,wrap_succ hi (by unfold maxLen; omega),hc,Option.bind_some,List.length_cons,List.length_nil]
   rw [show Nat.ble (acc.length+(0+1)) M63=true from Nat.ble_eq_true_of_le (by unfold M63; omega)]
   rfl
 · skip
   rw [e188_0_1];simp
theorem r274 (t:Tm):rn ⟨274,0,0⟩ [.int t.k,.int t.n,.str t.s,.sl (t.as.map Tm.row)]=some (0,[.bool (isW t)]):=by
 show rn _ _=_
 rw [e274_0_0];simp only [List.length_map];unfold isW;have e:decide ((t.as.length:Int)=0)=decide (t.as.length=0):=by simp
 rw [e];cases decide (t.k=3) <;> cases decide (0<=t.n) <;> cases decide (t.n<4) <;> cases decide (t.s=⟨#[]⟩) <;> cases decide (t.as.length=0) <;> rfl
theorem r94 (a b c:Int):rn ⟨94,0,0⟩ [.int a,.int b,.int c]=some (0,[.bool (decide (b<=a)&&decide (a<=c))]):=by
 show rn _ _=_
 rw [e94_0_0];cases decide (b<=a) <;> rfl
theorem r266 (t:Tm):rn ⟨266,0,0⟩ [.int t.k,.int t.n,.str t.s,.sl (t.as.map Tm.row)]=some (0,[.bool (isW t)]):=by
 show rn _ _=_
 rw [e266_0_0];have hc:=r94 t.n 0 3;simp only [hc,Option.bind_some,nth,List.getD_cons_zero,List.getD_cons_succ,D.I,D.S,D.L,D.B,List.length_map];unfold isW;have e:decide ((t.as.length:Int)=0)=decide (t.as.length=0):=by simp
 have e2:decide (t.n<=3)=decide (t.n<4):=decide_eq_decide.2 (by omega)
 rw [e,e2];cases decide (t.k=3) <;> cases decide (0<=t.n) <;> cases decide (t.n<4) <;> cases decide (t.s=⟨#[]⟩) <;> cases decide (t.as.length=0) <;> rfl
theorem r244 (s:ByteArray):rn ⟨244,0,0⟩ [.str s]=some (0,[.bool (isB s)]):=by
 show rn _ _=_
 rw [e244_0_0];unfold isB plusS minusS timesS;cases decide (s=(⟨#[112,108,117,115]⟩:ByteArray)) <;> cases decide (s=(⟨#[109,105,110,117,115]⟩:ByteArray)) <;> cases decide (s=(⟨#[116,105,109,101,115]⟩:ByteArray)) <;> rfl
theorem r265 (s:ByteArray):rn ⟨265,0,0⟩ [.str s]=some (0,[.bool (isB s)]):=by
 show rn _ _=_
 rw [e265_0_0];unfold isB plusS minusS timesS;cases decide (s=(⟨#[112,108,117,115]⟩:ByteArray)) <;> cases decide (s=(⟨#[109,105,110,117,115]⟩:ByteArray)) <;> cases decide (s=(⟨#[116,105,109,101,115]⟩:ByteArray)) <;> rfl
theorem r275 (s:ByteArray) {a b:Int} (ha:0<=a) (ha':a<4) (hb:0<=b) (hb':b<4):rn ⟨275,0,0⟩ [.str s,.int a,.int b]=some (0,[.int (cmp s a b)]):=by
 show rn _ _=_
 rw [e275_0_0];unfold cmp plusS minusS;have h4:(!decide ((4:Int)=0))=true:=rfl;simp only [h4,cond_true];obtain rfl | rfl | rfl | rfl:a=0\/a=1\/a=2\/a=3:=by omega
 all_goals
  obtain rfl | rfl | rfl | rfl:b=0\/b=1\/b=2\/b=3:=by omega
  all_goals
   by_cases h1:s=(⟨#[112,108,117,115]⟩:ByteArray)
   · simp only [h1,decide_true,cond_true,if_true]; rfl
   · by_cases h2:s=(⟨#[109,105,110,117,115]⟩:ByteArray)
     · simp only [h1,h2,decide_true,decide_false,cond_true,cond_false,if_true,if_false]; rfl
     · simp only [h1,h2,decide_false,cond_false,if_false]; rfl
theorem r268 (s:ByteArray) {a b:Int} (ha:0<=a) (ha':a<4) (hb:0<=b) (hb':b<4):rn ⟨268,0,0⟩ [.str s,.int a,.int b]=some (0,[.int (cmp s a b)]):=by
 show rn _ _=_
 rw [e268_0_0];unfold cmp plusS minusS;have h4:(!decide ((4:Int)=0))=true:=rfl;simp only [h4,cond_true];obtain rfl | rfl | rfl | rfl:a=0\/a=1\/a=2\/a=3:=by omega
 all_goals
  obtain rfl | rfl | rfl | rfl:b=0\/b=1\/b=2\/b=3:=by omega
  all_goals
   by_cases h1:s=(⟨#[112,108,117,115]⟩:ByteArray)
   · simp only [h1,decide_true,cond_true,if_true]; rfl
   · by_cases h2:s=(⟨#[109,105,110,117,115]⟩:ByteArray)
     · simp only [h1,h2,decide_true,decide_false,cond_true,cond_false,if_true,if_false]; rfl
     · simp only [h1,h2,decide_false,cond_false,if_false]; rfl
theorem r276 (l:List Bnd) (hl:l.length<=1048576) (s:ByteArray):rn ⟨276,0,0⟩ [.sl (l.map Bnd.row),.str s]=match bnd l s with
 | some t=>some (0,[.int t.k,.int t.n,.str t.s,.sl (t.as.map Tm.row),.bool true])
 | none=>some (0,[.int 0,.int 0,.str ⟨#[]⟩,.sl [],.bool false]):=by
 show rn _ _=_
 rw [e276_0_0];have hf:=find_loop (F:=fun i=>rn ⟨276,0,1⟩ [.str s,.sl (l.map Bnd.row),.int ((l.map Bnd.row)).length,.int (i:Int),.int 0,.int 0,.str (⟨#[]⟩:ByteArray),.sl []]) (xs:=l) (p:=fun b=>decide (b.1=s)) (A:=some (0,[.int (0),.int (0),.str ((⟨#[]⟩:ByteArray)),.sl ([])])) (B:=fun i b=>some (1,[.int b.2.k,.int b.2.n,.str b.2.s,.sl (b.2.as.map Tm.row)])) (fun i hi=>?_) ?_
 · simp only [Int.natCast_zero] at hf
   rw [bnd_find];rcases hf with ⟨h1,h2⟩|⟨i,hi,h1,h2⟩
   · rw [h1,h2]; rfl
   · rw [h1,h2]; rfl
 · skip
   rw [e276_0_1];simp only [Int.toNat_natCast,rowAt_map hi,bd_row,List.length_map,inbN,hi,Int.ofNat_lt,decide_true,cond_true,nth,List.getD_cons_zero,List.getD_cons_succ,D.I,D.S,D.L,D.B,wrap_succ hi (by unfold maxLen; omega)]
 · skip
   rw [e276_0_1];simp
theorem r318 (l:List Bnd) (hl:l.length<=1048576) (s:ByteArray):(bnd l s=none/\rn ⟨318,0,0⟩ [.sl (l.map Bnd.row),.str s]=some (0,[.int (-1)]))\/∃ i,∃ hi:i<l.length,bnd l s=some l[i].2/\rn ⟨318,0,0⟩ [.sl (l.map Bnd.row),.str s]=some (0,[.int (i:Int)]):=by
 have hf:=find_loop (F:=fun i=>rn ⟨318,0,1⟩ [.sl (l.map Bnd.row),.str s,.int (i:Int)]) (xs:=l) (p:=fun b=>decide (b.1=s)) (A:=some (0,[])) (B:=fun i b=>some (1,[.int (i:Int)])) (fun i hi=>?_) ?_
 · simp only [Int.natCast_zero] at hf
   rw [bnd_find];rcases hf with ⟨h1,h2⟩|⟨i,hi,h1,h2⟩
   · left
     refine ⟨by rw [h1]; rfl,?_⟩
     show rn _ _=_
     rw [e318_0_0];rw [h2]; rfl
   · right
     refine ⟨i,hi,by rw [h1]; rfl,?_⟩
     show rn _ _=_
     rw [e318_0_0];rw [h2]; rfl
 · skip
   rw [e318_0_1];simp only [Int.toNat_natCast,rowAt_map hi,bd_row,List.length_map,inbN,hi,Int.ofNat_lt,decide_true,cond_true,nth,List.getD_cons_zero,List.getD_cons_succ,D.I,D.S,D.L,D.B,wrap_succ hi (by unfold maxLen; omega)]
 · skip
   rw [e318_0_1];simp
theorem r269 (l:List Bnd) (hl:l.length<=1048576) (hs:∀ b∈l,Small b.2) (s:ByteArray):rn ⟨269,0,0⟩ [.sl (l.map Bnd.row),.str s]=match bnd l s with
 | some t=>some (0,[.int t.k,.int t.n,.str t.s,.bool true,.sl (t.as.map Tm.row)])
 | none=>some (0,[.int 0,.int 0,.str ⟨#[]⟩,.bool false,.sl []]):=by
 show rn _ _=_
 rw [e269_0_0];rcases r318 l hl s with ⟨h1,h2⟩|⟨i,hi,h1,h2⟩
 · skip
   rw [h1,h2]; rfl
 · skip
   have hc:=r188 l[i].2 (hs _ (List.getElem_mem hi));rw [h1,h2];have hn:¬((i:Int)<0):=by omega
   simp only [Option.bind_some,nth,List.getD_cons_zero,List.getD_cons_succ,D.I,D.S,D.L,D.B,Int.toNat_natCast,rowAt_map hi,bd_row,List.length_map,inbN,hi,hn,decide_true,decide_false,cond_true,cond_false,hc]
theorem r198 (l:List Bnd) (hl:l.length<=1048576) (hs:∀ b∈l,Small b.2):∀ t:Tm,Small t->rn ⟨198,0,0⟩ [.sl (l.map Bnd.row),.int t.k,.int t.n,.str t.s,.sl (t.as.map Tm.row)]=some (0,[.int (aS l t).k,.int (aS l t).n,.str (aS l t).s,.sl ((aS l t).as.map Tm.row)]):=Tm.ind fun t ih h=>by
 have hlt:=h.len;show rn _ _=_
 rw [e198_0_0];have hf:=map_loop (F:=fun i acc=>rn ⟨198,0,1⟩ [.sl (l.map Bnd.row),.sl (t.as.map Tm.row),.int ((t.as.map Tm.row)).length,.int (i:Int),.int 0,.int 0,.str (⟨#[]⟩:ByteArray),.int t.k,.int t.n,.str t.s,.sl [],.sl acc]) (xs:=t.as) (fun x=>(aS l x).row) (K:=fun acc=>some (0,[.int (0),.int (0),.str ((⟨#[]⟩:ByteArray)),.int (t.k),.int (t.n),.str (t.s),.sl ([]),.sl (acc)])) (fun i hi acc ha=>?_) (fun acc=>?_)
 · simp only [Int.natCast_zero] at hf
   have hb:=r276 l hl t.s;rw [aS_eq];by_cases hk:t.k=1
   · rw [if_pos hk]
     cases hq:bnd l t.s with
     | none =>
      rw [hq] at hb;simp only at hb;simp only [decide_eq_true hk,cond_true,hb,Option.bind_some,nth,List.getD_cons_zero,List.getD_cons_succ,D.I,D.S,D.L,D.B,cond_false,hf];simp [Tm.k,Tm.n,Tm.s,Tm.as,Function.comp_def]
     | some u =>
      rw [hq] at hb;simp only at hb;obtain ⟨b,hbm,rfl⟩:=bnd_mem hq;have hcp:=r259 b.2 (hs b hbm);simp only [decide_eq_true hk,cond_true,hb,Option.bind_some,nth,List.getD_cons_zero,List.getD_cons_succ,D.I,D.S,D.L,D.B,hcp]
   · rw [if_neg hk]
     simp only [decide_eq_false hk,cond_false,hf,Option.bind_some,nth,List.getD_cons_zero,List.getD_cons_succ,D.I,D.S,D.L,D.B];simp [Tm.k,Tm.n,Tm.s,Tm.as,Function.comp_def]
 · have hc:=ih _ (List.getElem_mem hi) (h.sub (List.getElem_mem hi))
   rw [e198_0_1];simp only [Int.toNat_natCast,rowAt_map hi,Tm.row_eq,List.length_map,inbN,hi,Int.ofNat_lt,decide_true,cond_true,nth,List.getD_cons_zero,List.getD_cons_succ,D.I,D.S,D.L,D.B,wrap_succ hi (by unfold maxLen; omega),hc,Option.bind_some,List.length_cons,List.length_nil]
   rw [show Nat.ble (acc.length+(0+1)) M63=true from Nat.ble_eq_true_of_le (by unfold M63; omega)]
   rfl
 · skip
   rw [e198_0_1];simp
theorem r185 (l:List Bnd) (hl:l.length<=1048576) (hs:∀ b∈l,Small b.2):∀ t:Tm,Small t->rn ⟨185,0,0⟩ [.sl (l.map Bnd.row),.int t.k,.int t.n,.str t.s,.sl (t.as.map Tm.row)]=some (0,[.int (aS l t).k,.int (aS l t).n,.str (aS l t).s,.sl ((aS l t).as.map Tm.row)]):=Tm.ind fun t ih h=>by
 have hlt:=h.len;show rn _ _=_
 rw [e185_0_0];have hf:=map_loop (F:=fun i acc=>rn ⟨185,0,1⟩ [.sl (l.map Bnd.row),.int (i:Int),.int t.k,.int t.n,.str t.s,.sl (t.as.map Tm.row),.int 0,.int 0,.str (⟨#[]⟩:ByteArray),.int t.k,.int t.n,.str t.s,.sl [],.sl acc]) (xs:=t.as) (fun x=>(aS l x).row) (K:=fun acc=>some (0,[.int (0),.int (0),.str ((⟨#[]⟩:ByteArray)),.int (t.k),.int (t.n),.str (t.s),.sl ([]),.sl (acc)])) (fun i hi acc ha=>?_) (fun acc=>?_)
 · simp only [Int.natCast_zero] at hf
   have hb:=r269 l hl hs t.s;rw [aS_eq];by_cases hk:t.k=1
   · rw [if_pos hk]
     cases hq:bnd l t.s with
     | none =>
      rw [hq] at hb;simp only at hb;simp only [decide_eq_true hk,cond_true,hb,Option.bind_some,nth,List.getD_cons_zero,List.getD_cons_succ,D.I,D.S,D.L,D.B,cond_false,hf];simp [Tm.k,Tm.n,Tm.s,Tm.as,Function.comp_def]
     | some u =>
      rw [hq] at hb;simp only at hb;obtain ⟨b,hbm,rfl⟩:=bnd_mem hq;have hcp:=r259 b.2 (hs b hbm);simp only [decide_eq_true hk,cond_true,hb,Option.bind_some,nth,List.getD_cons_zero,List.getD_cons_succ,D.I,D.S,D.L,D.B,hcp]
   · rw [if_neg hk]
     simp only [decide_eq_false hk,cond_false,hf,Option.bind_some,nth,List.getD_cons_zero,List.getD_cons_succ,D.I,D.S,D.L,D.B];simp [Tm.k,Tm.n,Tm.s,Tm.as,Function.comp_def]
 · have hc:=ih _ (List.getElem_mem hi) (h.sub (List.getElem_mem hi))
   rw [e185_0_1];simp only [Int.toNat_natCast,rowAt_map hi,Tm.row_eq,List.length_map,inbN,hi,Int.ofNat_lt,decide_true,cond_true,nth,List.getD_cons_zero,List.getD_cons_succ,D.I,D.S,D.L,D.B,wrap_succ hi (by unfold maxLen; omega),hc,Option.bind_some,List.length_cons,List.length_nil]
   rw [show Nat.ble (acc.length+(0+1)) M63=true from Nat.ble_eq_true_of_le (by unfold M63; omega)]
   rfl
 · skip
   rw [e185_0_1];simp
theorem r197:∀ t:Tm,Small t->rn ⟨197,0,0⟩ [.int t.k,.int t.n,.str t.s,.sl (t.as.map Tm.row)]=some (0,[.int (rW t).k,.int (rW t).n,.str (rW t).s,.sl ((rW t).as.map Tm.row)]):=Tm.ind fun t ih h=>by
 have hlt:=h.len;show rn _ _=_
 rw [e197_0_0];have hf:=map_loop (F:=fun i acc=>rn ⟨197,0,1⟩ [.sl (t.as.map Tm.row),.int ((t.as.map Tm.row)).length,.int (i:Int),.int 0,.int 0,.str (⟨#[]⟩:ByteArray),.int t.k,.int t.n,.str t.s,.sl [],.sl acc]) (xs:=t.as) (fun x=>(rW x).row) (K:=fun acc=>some (0,[.int (0),.int (0),.str ((⟨#[]⟩:ByteArray)),.int (t.k),.int (t.n),.str (t.s),.sl ([]),.sl (acc)])) (fun i hi acc ha=>?_) (fun acc=>?_)
 · simp only [Int.natCast_zero] at hf
   have e:t.as.map (fun x=>(rW x).row)=(t.as.map rW).map Tm.row:=by simp [Function.comp_def]
   rw [e] at hf;rw [rW_eq];generalize t.as.map rW=us at hf ⊢;have hB:=r244 t.s;rw [hf];simp only [Option.bind_some,Nat.beq_refl,cond_true,nth,List.getD_cons_zero,List.getD_cons_succ,D.I,D.S,D.L,D.B,hB,List.length_map];by_cases h1:t.k=2
   case neg =>
    simp only [decide_eq_false h1,cond_false];unfold rW1;split
    · rw [if_neg (fun h=>h1 h.1)]; rfl
    · rfl
   by_cases h2:t.n=0
   case neg =>
    simp only [decide_eq_true h1,decide_eq_false h2,cond_true,cond_false];unfold rW1;split
    · rw [if_neg (fun h=>h2 h.2.1)]; rfl
    · rfl
   simp only [decide_eq_true h1,decide_eq_true h2,cond_true];cases h3:isB t.s with
   | false =>
    simp only [cond_false];unfold rW1;split
    · rw [if_neg (fun h=>by rw [h3] at h; exact absurd h.2.2.1 (by decide))]; rfl
    · rfl
   | true =>
    simp only [cond_true]
    match us with
    | []=>rfl
    | [x]=>rfl
    | x::y::z::zs =>
     have:¬(((x::y::z::zs).length:Int)=2):=by simp only [List.length_cons]; omega
     simp only [decide_eq_false this,cond_false];rfl
    | [x,y] =>
     have hx:=r274 x;have hy:=r274 y;have l2:decide ((([x,y]:List Tm).length:Int)=2)=true:=rfl;have i0:inb 0 ([x,y]:List Tm).length=true:=rfl;have i1:inb 1 ([x,y]:List Tm).length=true:=rfl;have r0:rowAt (([x,y]:List Tm).map Tm.row) (Int.toNat 0)=x.row:=rfl;have r1:rowAt (([x,y]:List Tm).map Tm.row) (Int.toNat 1)=y.row:=rfl;simp only [l2,i0,i1,r0,r1,cond_true,Tm.row_eq,nth,List.getD_cons_zero,List.getD_cons_succ,D.I,D.S,D.L,D.B,hx,hy,Option.bind_some];unfold rW1;simp only;cases h4:isW x with
     | false=>simp only [cond_false]; rw [if_neg (fun h=>by simp at h)]; rfl
     | true =>
      cases h5:isW y with
      | false=>simp only [cond_true,cond_false]; rw [if_neg (fun h=>by simp at h)]; rfl
      | true =>
       have b1:=h4;have b2:=h5;simp only [isW,Bool.and_eq_true,decide_eq_true_eq] at b1 b2;have hcm:=r275 t.s b1.2.1 b1.2.2.1 b2.2.1 b2.2.2.1;simp only [cond_true,hcm,Option.bind_some,nth,List.getD_cons_zero,List.getD_cons_succ,D.I,D.S,D.L,D.B];rw [if_pos ⟨h1,h2,h3,trivial,trivial⟩];rfl
 · have hc:=ih _ (List.getElem_mem hi) (h.sub (List.getElem_mem hi))
   rw [e197_0_1];simp only [Int.toNat_natCast,rowAt_map hi,Tm.row_eq,List.length_map,inbN,hi,Int.ofNat_lt,decide_true,cond_true,nth,List.getD_cons_zero,List.getD_cons_succ,D.I,D.S,D.L,D.B,wrap_succ hi (by unfold maxLen; omega),hc,Option.bind_some,List.length_cons,List.length_nil]
   rw [show Nat.ble (acc.length+(0+1)) M63=true from Nat.ble_eq_true_of_le (by unfold M63; omega)]
   rfl
 · skip
   rw [e197_0_1];simp
theorem r267 (n:Int):rn ⟨267,0,0⟩ [.int n]=some (0,[.int 3,.int n,.str ⟨#[]⟩,.sl []]):=by
 show rn _ _=_
 rw [e267_0_0]
theorem r184:∀ t:Tm,Small t->rn ⟨184,0,0⟩ [.int t.k,.int t.n,.str t.s,.sl (t.as.map Tm.row)]=some (0,[.int (rW t).k,.int (rW t).n,.str (rW t).s,.sl ((rW t).as.map Tm.row)]):=Tm.ind fun t ih h=>by
 have hlt:=h.len;show rn _ _=_
 rw [e184_0_0];have hf:=map_loop (F:=fun i acc=>rn ⟨184,0,1⟩ [.int (i:Int),.int t.k,.int t.n,.str t.s,.sl (t.as.map Tm.row),.int 0,.int 0,.str (⟨#[]⟩:ByteArray),.int t.k,.int t.n,.str t.s,.sl [],.sl acc]) (xs:=t.as) (fun x=>(rW x).row) (K:=fun acc=>some (0,[.int (t.k),.int (t.n),.str (t.s),.sl ((t.as.map Tm.row)),.int (0),.int (0),.str ((⟨#[]⟩:ByteArray)),.int (t.k),.int (t.n),.str (t.s),.sl ([]),.sl (acc)])) (fun i hi acc ha=>?_) (fun acc=>?_)
 · simp only [Int.natCast_zero] at hf
   have e:t.as.map (fun x=>(rW x).row)=(t.as.map rW).map Tm.row:=by simp [Function.comp_def]
   rw [e] at hf;rw [rW_eq];generalize t.as.map rW=us at hf ⊢;have hB:=r265 t.s;rw [hf];simp only [Option.bind_some,Nat.beq_refl,cond_true,nth,List.getD_cons_zero,List.getD_cons_succ,D.I,D.S,D.L,D.B,hB,List.length_map];by_cases h1:t.k=2
   case neg =>
    simp only [decide_eq_false h1,cond_false];unfold rW1;split
    · rw [if_neg (fun h=>h1 h.1)]; rfl
    · rfl
   by_cases h2:t.n=0
   case neg =>
    simp only [decide_eq_true h1,decide_eq_false h2,cond_true,cond_false];unfold rW1;split
    · rw [if_neg (fun h=>h2 h.2.1)]; rfl
    · rfl
   simp only [decide_eq_true h1,decide_eq_true h2,cond_true];cases h3:isB t.s with
   | false =>
    simp only [cond_false];unfold rW1;split
    · rw [if_neg (fun h=>by rw [h3] at h; exact absurd h.2.2.1 (by decide))]; rfl
    · rfl
   | true =>
    simp only [cond_true]
    match us with
    | []=>rfl
    | [x]=>rfl
    | x::y::z::zs =>
     have:¬(((x::y::z::zs).length:Int)=2):=by simp only [List.length_cons]; omega
     simp only [decide_eq_false this,cond_false];rfl
    | [x,y] =>
     have hx:=r266 x;have hy:=r266 y;have l2:decide ((([x,y]:List Tm).length:Int)=2)=true:=rfl;have i0:inb 0 ([x,y]:List Tm).length=true:=rfl;have i1:inb 1 ([x,y]:List Tm).length=true:=rfl;have r0:rowAt (([x,y]:List Tm).map Tm.row) (Int.toNat 0)=x.row:=rfl;have r1:rowAt (([x,y]:List Tm).map Tm.row) (Int.toNat 1)=y.row:=rfl;simp only [l2,i0,i1,r0,r1,cond_true,Tm.row_eq,nth,List.getD_cons_zero,List.getD_cons_succ,D.I,D.S,D.L,D.B,hx,hy,Option.bind_some];unfold rW1;simp only;cases h4:isW x with
     | false=>simp only [cond_false]; rw [if_neg (fun h=>by simp at h)]; rfl
     | true =>
      cases h5:isW y with
      | false=>simp only [cond_true,cond_false]; rw [if_neg (fun h=>by simp at h)]; rfl
      | true =>
       have b1:=h4;have b2:=h5;simp only [isW,Bool.and_eq_true,decide_eq_true_eq] at b1 b2;have hcm:=r268 t.s b1.2.1 b1.2.2.1 b2.2.1 b2.2.2.1;have hwd:=r267 (cmp t.s x.n y.n);simp only [cond_true,hcm,Option.bind_some,nth,List.getD_cons_zero,List.getD_cons_succ,D.I,D.S,D.L,D.B,hwd];rw [if_pos ⟨h1,h2,h3,trivial,trivial⟩];rfl
 · have hc:=ih _ (List.getElem_mem hi) (h.sub (List.getElem_mem hi))
   rw [e184_0_1];simp only [Int.toNat_natCast,rowAt_map hi,Tm.row_eq,List.length_map,inbN,hi,Int.ofNat_lt,decide_true,cond_true,nth,List.getD_cons_zero,List.getD_cons_succ,D.I,D.S,D.L,D.B,wrap_succ hi (by unfold maxLen; omega),hc,Option.bind_some,List.length_cons,List.length_nil]
   rw [show Nat.ble (acc.length+(0+1)) M63=true from Nat.ble_eq_true_of_le (by unfold M63; omega)]
   rfl
 · skip
   rw [e184_0_1];simp
theorem r253 (n:Nat):rn ⟨253,0,0⟩ [.int (n:Int)]=some (0,[.int (cnt4 n)]):=by
 show rn _ _=_
 rw [e253_0_0];have hn:¬((n:Int)<0):=by omega
 simp only [decide_eq_false hn,cond_false];have st:∀ x a:Int,0<x->rn ⟨253,0,1⟩ [.int x,.int a]=rn ⟨253,0,1⟩ [.int (IntKind.i64.wrap (x-1)),.int (IntKind.i64.wrap (a*4))]:=fun x a h=>by
  rw [e253_0_1];rw [decide_eq_true h]; rfl
 have fi:∀ a:Int,rn ⟨253,0,1⟩ [.int 0,.int a]=some (0,[.int a]):=fun a=>by
  rw [e253_0_1];rfl
 by_cases h3:3<n
 · rw [cnt4_big h3,decide_eq_true (by omega:(3:Int)<(n:Int))]; rfl
 · rw [decide_eq_false (by omega:¬(3:Int)<(n:Int))]
   simp only [cond_false];obtain rfl | rfl | rfl | rfl:n=0\/n=1\/n=2\/n=3:=by omega
   · show (rn ⟨253,0,1⟩ [.int 0,.int 1]).bind _=_
     rw [fi]; rfl
   · show (rn ⟨253,0,1⟩ [.int 1,.int 1]).bind _=_
     rw [st 1 1 (by decide)]
     show (rn ⟨253,0,1⟩ [.int 0,.int 4]).bind _=_
     rw [fi]; rfl
   · show (rn ⟨253,0,1⟩ [.int 2,.int 1]).bind _=_
     rw [st 2 1 (by decide)]
     show (rn ⟨253,0,1⟩ [.int 1,.int 4]).bind _=_
     rw [st 1 4 (by decide)]
     show (rn ⟨253,0,1⟩ [.int 0,.int 16]).bind _=_
     rw [fi]; rfl
   · show (rn ⟨253,0,1⟩ [.int 3,.int 1]).bind _=_
     rw [st 3 1 (by decide)]
     show (rn ⟨253,0,1⟩ [.int 2,.int 4]).bind _=_
     rw [st 2 4 (by decide)]
     show (rn ⟨253,0,1⟩ [.int 1,.int 16]).bind _=_
     rw [st 1 16 (by decide)]
     show (rn ⟨253,0,1⟩ [.int 0,.int 64]).bind _=_
     rw [fi]; rfl
theorem r155 (n:Nat):rn ⟨155,0,0⟩ [.int (n:Int)]=some (0,[.int (cnt4 n)]):=by
 show rn _ _=_
 rw [e155_0_0];have hi:=r94 (n:Int) 0 3;simp only [hi,Option.bind_some,nth,List.getD_cons_zero,List.getD_cons_succ,D.I,D.S,D.L,D.B];rw [decide_eq_true (by omega:(0:Int)<=(n:Int)),Bool.true_and]
 have st:∀ x a i:Int,i<x->rn ⟨155,0,1⟩ [.int x,.int a,.int i]=rn ⟨155,0,1⟩ [.int x,.int (IntKind.i64.wrap (a*4)),.int (IntKind.i64.wrap (i+1))]:=fun x a i h=>by
  rw [e155_0_1];rw [decide_eq_true h]; rfl
 have fi:∀ x a:Int,rn ⟨155,0,1⟩ [.int x,.int a,.int x]=some (0,[.int a]):=fun x a=>by
  rw [e155_0_1];rw [decide_eq_false (by omega)]; rfl
 by_cases h3:3<n
 · rw [cnt4_big h3,decide_eq_false (by omega:¬(n:Int)<=(3:Int))]; rfl
 · rw [decide_eq_true (by omega:(n:Int)<=(3:Int))]
   simp only [Bool.not_true,cond_false];obtain rfl | rfl | rfl | rfl:n=0\/n=1\/n=2\/n=3:=by omega
   · show (rn ⟨155,0,1⟩ [.int 0,.int 1,.int 0]).bind _=_
     rw [fi]; rfl
   · show (rn ⟨155,0,1⟩ [.int 1,.int 1,.int 0]).bind _=_
     rw [st 1 1 0 (by decide)]
     show (rn ⟨155,0,1⟩ [.int 1,.int 4,.int 1]).bind _=_
     rw [fi]; rfl
   · show (rn ⟨155,0,1⟩ [.int 2,.int 1,.int 0]).bind _=_
     rw [st 2 1 0 (by decide)]
     show (rn ⟨155,0,1⟩ [.int 2,.int 4,.int 1]).bind _=_
     rw [st 2 4 1 (by decide)]
     show (rn ⟨155,0,1⟩ [.int 2,.int 16,.int 2]).bind _=_
     rw [fi]; rfl
   · show (rn ⟨155,0,1⟩ [.int 3,.int 1,.int 0]).bind _=_
     rw [st 3 1 0 (by decide)]
     show (rn ⟨155,0,1⟩ [.int 3,.int 4,.int 1]).bind _=_
     rw [st 3 4 1 (by decide)]
     show (rn ⟨155,0,1⟩ [.int 3,.int 16,.int 2]).bind _=_
     rw [st 3 16 2 (by decide)]
     show (rn ⟨155,0,1⟩ [.int 3,.int 64,.int 3]).bind _=_
     rw [fi]; rfl
theorem wcnt (n:Nat) (c:Int):(decide (0<=c)&&decide (c<=IntKind.i64.wrap (cnt4 n-1)))=isC n c:=by
 have h:=cnt4_le n;rw [IntWalk.i64_in _ (by omega)]
 unfold isC;have:decide (c<=cnt4 n-1)=decide (c<cnt4 n):=decide_eq_decide.2 (by omega)
 rw [this]
theorem r169 (n:Nat) (c:Int):rn ⟨169,0,0⟩ [.int (n:Int),.int c]=some (0,[.bool (isC n c)]):=by
 show rn _ _=_
 rw [e169_0_0];have hc:=r253 n;simp only [hc,Option.bind_some,nth,List.getD_cons_zero,List.getD_cons_succ,D.I,D.S,D.L,D.B];unfold isC;cases decide (0<=c) <;> rfl
theorem rv0 (a b c:Int):rn ⟨273,1,0⟩ [.sl []]=some (0,[.sl []]):=by
 show rn _ _=_
 rw [e273_1_0];show (rn ⟨273,1,1⟩ [.int 0,.int (-1),.sl []]).bind _=_
 rw [e273_1_1];rfl
theorem rv1 (a b c:Int):rn ⟨273,1,0⟩ [.sl [[D.int a]]]=some (0,[.sl [[D.int a]]]):=by
 show rn _ _=_
 rw [e273_1_0];show (rn ⟨273,1,1⟩ [.int 0,.int (0),.sl [[D.int a]]]).bind _=_
 rw [e273_1_1];rfl
theorem rv2 (a b c:Int):rn ⟨273,1,0⟩ [.sl [[D.int a],[D.int b]]]=some (0,[.sl [[D.int b],[D.int a]]]):=by
 show rn _ _=_
 rw [e273_1_0];show (rn ⟨273,1,1⟩ [.int 0,.int (1),.sl [[D.int a],[D.int b]]]).bind _=_
 rw [e273_1_1];show (rn ⟨273,1,1⟩ [.int 1,.int 0,.sl [[D.int b],[D.int a]]]).bind _=_
 rw [e273_1_1];rfl
theorem rv3 (a b c:Int):rn ⟨273,1,0⟩ [.sl [[D.int a],[D.int b],[D.int c]]]=some (0,[.sl [[D.int c],[D.int b],[D.int a]]]):=by
 show rn _ _=_
 rw [e273_1_0];show (rn ⟨273,1,1⟩ [.int 0,.int (2),.sl [[D.int a],[D.int b],[D.int c]]]).bind _=_
 rw [e273_1_1];show (rn ⟨273,1,1⟩ [.int 1,.int 1,.sl [[D.int c],[D.int b],[D.int a]]]).bind _=_
 rw [e273_1_1];rfl
theorem r196 (n:Nat) (c:Int):rn ⟨196,0,0⟩ [.int (n:Int),.int c]=some (0,[.sl ((vals n c).map iRow)]):=by
 show rn _ _=_
 rw [e196_0_0];have hi:=r169 n c;simp only [hi,Option.bind_some,nth,List.getD_cons_zero,List.getD_cons_succ,D.I,D.S,D.L,D.B];unfold vals;cases hq:isC n c with
 | false=>rfl
 | true =>
  obtain ⟨hn,h0,h64⟩:=isC_le hq;have e1:c.tdiv 4=c / 4:=Int.tdiv_eq_ediv_of_nonneg h0;have w1:IntKind.i64.wrap (c.tdiv 4)=c.tdiv 4:=by rw [e1]; exact IntWalk.i64_in _ (by omega)
  have h1:0<=c.tdiv 4:=by rw [e1]; omega
  have e2:(c.tdiv 4).tdiv 4=c / 4 / 4:=by rw [Int.tdiv_eq_ediv_of_nonneg h1,e1]
  have w2:IntKind.i64.wrap ((c.tdiv 4).tdiv 4)=(c.tdiv 4).tdiv 4:=by rw [e2]; exact IntWalk.i64_in _ (by omega)
  have st:∀ (x a:Int) (acc:Rows),0<x->acc.length<=10->rn ⟨196,0,1⟩ [.int x,.int a,.sl acc]=rn ⟨196,0,1⟩ [.int (IntKind.i64.wrap (x-1)),.int (IntKind.i64.wrap (a.tdiv 4)),.sl (acc++[[.int (a.tmod 4)]])]:=fun x a acc h hl=>by
   rw [e196_0_1];rw [decide_eq_true h];simp only [List.length_cons,List.length_nil];rw [show Nat.ble (acc.length+(0+1)) M63=true from Nat.ble_eq_true_of_le (by unfold M63; omega)]
   rfl
  have fi:∀ (a:Int) (acc:Rows),rn ⟨196,0,1⟩ [.int 0,.int a,.sl acc]=some (0,[.sl acc]):=fun a acc=>by
   rw [e196_0_1];rfl
  simp only [Bool.not_true,cond_false,if_true];obtain rfl | rfl | rfl | rfl:n=0\/n=1\/n=2\/n=3:=by omega
  · show (rn ⟨196,0,1⟩ [.int 0,.int c,.sl []]).bind _=_
    rw [fi];have hv:=rv0 0 0 0;show ((rn ⟨273,1,0⟩ [.sl []]).bind _:R)=_
    rw [hv]; rfl
  · show (rn ⟨196,0,1⟩ [.int 1,.int c,.sl []]).bind _=_
    rw [st 1 c [] (by decide) (by decide)]
    rw [w1];show (rn ⟨196,0,1⟩ [.int 0,.int (c.tdiv 4),.sl [[.int (c.tmod 4)]]]).bind _=_
    rw [fi];have hv:=rv1 (c.tmod 4) 0 0;show ((rn ⟨273,1,0⟩ [.sl [[.int (c.tmod 4)]]]).bind _:R)=_
    rw [hv]; rfl
  · show (rn ⟨196,0,1⟩ [.int 2,.int c,.sl []]).bind _=_
    rw [st 2 c [] (by decide) (by decide),w1]
    show (rn ⟨196,0,1⟩ [.int 1,.int (c.tdiv 4),.sl [[.int (c.tmod 4)]]]).bind _=_
    rw [st 1 _ _ (by decide) (by simp),w2]
    show (rn ⟨196,0,1⟩ [.int 0,.int ((c.tdiv 4).tdiv 4),.sl [[.int (c.tmod 4)],[.int ((c.tdiv 4).tmod 4)]]]).bind _=_
    rw [fi];have hv:=rv2 (c.tmod 4) ((c.tdiv 4).tmod 4) 0;show ((rn ⟨273,1,0⟩ [.sl [[.int (c.tmod 4)],[.int ((c.tdiv 4).tmod 4)]]]).bind _:R)=_
    rw [hv]; rfl
  · show (rn ⟨196,0,1⟩ [.int 3,.int c,.sl []]).bind _=_
    rw [st 3 c [] (by decide) (by decide),w1]
    show (rn ⟨196,0,1⟩ [.int 2,.int (c.tdiv 4),.sl [[.int (c.tmod 4)]]]).bind _=_
    rw [st 2 _ _ (by decide) (by simp),w2]
    show (rn ⟨196,0,1⟩ [.int 1,.int ((c.tdiv 4).tdiv 4),.sl [[.int (c.tmod 4)],[.int ((c.tdiv 4).tmod 4)]]]).bind _=_
    rw [st 1 _ _ (by decide) (by simp)]
    show (rn ⟨196,0,1⟩ [.int 0,.int _,.sl [[.int (c.tmod 4)],[.int ((c.tdiv 4).tmod 4)],[.int (((c.tdiv 4).tdiv 4).tmod 4)]]]).bind _=_
    rw [fi];have hv:=rv3 (c.tmod 4) ((c.tdiv 4).tmod 4) (((c.tdiv 4).tdiv 4).tmod 4);show ((rn ⟨273,1,0⟩ [.sl [[.int (c.tmod 4)],[.int ((c.tdiv 4).tmod 4)],[.int (((c.tdiv 4).tdiv 4).tmod 4)]]]).bind _:R)=_
    rw [hv]; rfl
theorem r195 (n:Nat) (c:Int):rn ⟨195,0,0⟩ [.int (n:Int),.int c]=some (0,[.sl ((vals n c).map iRow)]):=by
 show rn _ _=_
 rw [e195_0_0];have hi:=r155 n;have hj:=r94 c 0 (IntKind.i64.wrap (cnt4 n-1));rw [wcnt] at hj;simp only [hi,hj,Option.bind_some,nth,List.getD_cons_zero,List.getD_cons_succ,D.I,D.S,D.L,D.B];unfold vals;cases hq:isC n c with
 | false=>rfl
 | true =>
  obtain ⟨hn,h0,h64⟩:=isC_le hq;have e1:c.tdiv 4=c / 4:=Int.tdiv_eq_ediv_of_nonneg h0;have w1:IntKind.i64.wrap (c.tdiv 4)=c.tdiv 4:=by rw [e1]; exact IntWalk.i64_in _ (by omega)
  have h1:0<=c.tdiv 4:=by rw [e1]; omega
  have e2:(c.tdiv 4).tdiv 4=c / 4 / 4:=by rw [Int.tdiv_eq_ediv_of_nonneg h1,e1]
  have w2:IntKind.i64.wrap ((c.tdiv 4).tdiv 4)=(c.tdiv 4).tdiv 4:=by rw [e2]; exact IntWalk.i64_in _ (by omega)
  have fi:∀ (a:Int) (acc:Rows),rn ⟨195,0,1⟩ [.int a,.int (-1),.sl acc]=some (0,[.sl acc]):=fun a acc=>by
   rw [e195_0_1];rfl
  simp only [Bool.not_true,cond_false,if_true];obtain rfl | rfl | rfl | rfl:n=0\/n=1\/n=2\/n=3:=by omega
  · show (rn ⟨195,0,1⟩ [.int c,.int (-1),.sl []]).bind _=_
    rw [fi]; rfl
  · show (rn ⟨195,0,1⟩ [.int c,.int 0,.sl [[.int 0]]]).bind _=_
    rw [e195_0_1];show (rn ⟨195,0,1⟩ [.int (IntKind.i64.wrap (c.tdiv 4)),.int (-1),.sl [[.int (c.tmod 4)]]]).bind _=_
    rw [fi]; rfl
  · show (rn ⟨195,0,1⟩ [.int c,.int 1,.sl [[.int 0],[.int 0]]]).bind _=_
    rw [e195_0_1];show (rn ⟨195,0,1⟩ [.int (IntKind.i64.wrap (c.tdiv 4)),.int 0,.sl [[.int 0],[.int (c.tmod 4)]]]).bind _=_
    rw [w1];rw [e195_0_1];show (rn ⟨195,0,1⟩ [.int (IntKind.i64.wrap ((c.tdiv 4).tdiv 4)),.int (-1),.sl [[.int ((c.tdiv 4).tmod 4)],[.int (c.tmod 4)]]]).bind _=_
    rw [fi]; rfl
  · show (rn ⟨195,0,1⟩ [.int c,.int 2,.sl [[.int 0],[.int 0],[.int 0]]]).bind _=_
    rw [e195_0_1];show (rn ⟨195,0,1⟩ [.int (IntKind.i64.wrap (c.tdiv 4)),.int 1,.sl [[.int 0],[.int 0],[.int (c.tmod 4)]]]).bind _=_
    rw [w1];rw [e195_0_1];show (rn ⟨195,0,1⟩ [.int (IntKind.i64.wrap ((c.tdiv 4).tdiv 4)),.int 0,.sl [[.int 0],[.int ((c.tdiv 4).tmod 4)],[.int (c.tmod 4)]]]).bind _=_
    rw [w2];rw [e195_0_1];show (rn ⟨195,0,1⟩ [.int _,.int (-1),.sl [[.int (((c.tdiv 4).tdiv 4).tmod 4)],[.int ((c.tdiv 4).tmod 4)],[.int (c.tmod 4)]]]).bind _=_
    rw [fi]; rfl
theorem r199 (vars:List ByteArray) (c:Int):rn ⟨199,0,0⟩ [.sl (vars.map sRow),.int c]=some (0,[.sl ((caseS vars c).map Bnd.row)]):=by
 show rn _ _=_
 rw [e199_0_0];have hv:=r196 vars.length c;have hle:=vals_len vars.length c;have hle3:(vals vars.length c).length<=3:=by
  by_cases hC:isC vars.length c=true
  · have:=(isC_le hC).1; omega
  · unfold vals; rw [if_neg hC]; simp
 have hz:(vars.zip (vals vars.length c)).length=(vals vars.length c).length:=by simp; omega
 have hf:=map_loop (F:=fun i acc=>rn ⟨199,0,1⟩ [.sl (vars.map sRow),.int (((vals vars.length c).map iRow).length),.int (i:Int),.sl acc,.sl ((vals vars.length c).map iRow)]) (xs:=vars.zip (vals vars.length c)) (fun p=>[.str p.1,.int 3,.int p.2,.str ⟨#[]⟩,.sl []]) (K:=fun acc=>some (0,[.sl (acc)])) (fun i hi acc ha=>?_) (fun acc=>?_)
 · simp only [Int.natCast_zero] at hf
   simp only [List.length_map];rw [hv];simp only [Option.bind_some,nth,List.getD_cons_zero,List.getD_cons_succ,D.I,D.S,D.L,D.B];first
    | rw [hf]
    | (simp only [List.length_map] at hf ⊢; rw [hf])
   simp only [Option.bind_some,Nat.beq_refl,cond_true,nth,List.getD_cons_zero,List.getD_cons_succ,D.I,D.S,D.L,D.B];unfold caseS;rw [List.map_map];rfl
 · have hi1:i<vars.length:=by rw [List.length_zip] at hi; omega
   have hi2:i<(vals vars.length c).length:=by rw [List.length_zip] at hi; omega
   rw [e199_0_1];simp only [Int.toNat_natCast,rowAt_map hi1,rowAt_map hi2,sRow,iRow,List.length_map,inbN,hi1,hi2,Int.ofNat_lt,decide_true,cond_true,nth,List.getD_cons_zero,List.getD_cons_succ,D.I,D.S,D.L,D.B,wrap_succ hi2 (by unfold maxLen; omega),List.length_cons,List.length_nil,Option.bind_some]
   rw [show Nat.ble (acc.length+(0+1)) M63=true from Nat.ble_eq_true_of_le (by unfold M63; omega)]
   rw [List.getElem_zip];rfl
 · skip
   rw [e199_0_1];simp [hz]
theorem r186 (vars:List ByteArray) (c:Int):rn ⟨186,0,0⟩ [.sl (vars.map sRow),.int c]=some (0,[.sl ((caseS vars c).map Bnd.row)]):=by
 show rn _ _=_
 rw [e186_0_0];have hv:=r195 vars.length c;have hle:=vals_len vars.length c;have hle3:(vals vars.length c).length<=3:=by
  by_cases hC:isC vars.length c=true
  · have:=(isC_le hC).1; omega
  · unfold vals; rw [if_neg hC]; simp
 have hz:(vars.zip (vals vars.length c)).length=(vals vars.length c).length:=by simp; omega
 have hf:=map_loop (F:=fun i acc=>rn ⟨186,0,1⟩ [.sl (vars.map sRow),.int (i:Int),.sl acc,.sl ((vals vars.length c).map iRow)]) (xs:=vars.zip (vals vars.length c)) (fun p=>[.str p.1,.int 3,.int p.2,.str ⟨#[]⟩,.sl []]) (K:=fun acc=>some (0,[.sl (acc)])) (fun i hi acc ha=>?_) (fun acc=>?_)
 · simp only [Int.natCast_zero] at hf
   simp only [List.length_map];rw [hv];simp only [Option.bind_some,nth,List.getD_cons_zero,List.getD_cons_succ,D.I,D.S,D.L,D.B];first
    | rw [hf]
    | (simp only [List.length_map] at hf ⊢; rw [hf])
   simp only [Option.bind_some,Nat.beq_refl,cond_true,nth,List.getD_cons_zero,List.getD_cons_succ,D.I,D.S,D.L,D.B];unfold caseS;rw [List.map_map];rfl
 · have hi1:i<vars.length:=by rw [List.length_zip] at hi; omega
   have hi2:i<(vals vars.length c).length:=by rw [List.length_zip] at hi; omega
   rw [e186_0_1];have hw:=r267 ((vals vars.length c)[i]);simp only [Int.toNat_natCast,rowAt_map hi1,rowAt_map hi2,sRow,iRow,List.length_map,inbN,hi1,hi2,Int.ofNat_lt,decide_true,cond_true,nth,List.getD_cons_zero,List.getD_cons_succ,D.I,D.S,D.L,D.B,wrap_succ hi2 (by unfold maxLen; omega),List.length_cons,List.length_nil,Option.bind_some,hw]
   rw [show Nat.ble (acc.length+(0+1)) M63=true from Nat.ble_eq_true_of_le (by unfold M63; omega)]
   rw [List.getElem_zip];rfl
 · skip
   rw [e186_0_1];simp [hz]
theorem r105 (vars:List ByteArray) (t:Tm) (ht:Small t) (c:Int):rn ⟨105,0,0⟩ [.sl (vars.map sRow),.int t.k,.int t.n,.str t.s,.sl (t.as.map Tm.row),.int c]=some (0,[.int (inst vars t c).k,.int (inst vars t c).n,.str (inst vars t c).s,.sl ((inst vars t c).as.map Tm.row)]):=by
 show rn _ _=_
 rw [e105_0_0];have hl:(caseS vars c).length<=1048576:=by
  have:=vals_len vars.length c;by_cases hC:isC vars.length c=true
  · have:=(isC_le hC).1; unfold caseS; simp; omega
  · unfold caseS vals; rw [if_neg hC]; simp
 have h1:=r186 vars c;have h2:=r185 (caseS vars c) hl (caseS_small vars c) t ht;have h3:=r184 (aS (caseS vars c) t) (aS_small (caseS_small vars c) t ht);simp only [h1,h2,h3,Option.bind_some,nth,List.getD_cons_zero,List.getD_cons_succ,D.I,D.S,D.L,D.B];rfl
theorem caseS_len (vars:List ByteArray) (c:Int):(caseS vars c).length<=1048576:=by
 have:=vals_len vars.length c;by_cases hC:isC vars.length c=true
 · have:=(isC_le hC).1; unfold caseS; simp; omega
 · unfold caseS vals; rw [if_neg hC]; simp
theorem r252:∀ t:Tm,t.nodes<=1048577->rn ⟨252,0,0⟩ [.int t.k,.int t.n,.str t.s,.sl (t.as.map Tm.row)]=some (0,[.sl (t.names.map sRow)]):=Tm.ind fun t ih h=>by
 have hnd:=Tm.nodes_eq t;have hsm:=names_sum t;have hlt:=len_sum (xs:=t.as);show rn _ _=_
 rw [e252_0_0];have hf:=fun a0:Rows=>fun ha0:a0.length<=1=>cat_loop (F:=fun i acc=>rn ⟨252,0,1⟩ [.sl (t.as.map Tm.row),.int (t.as.map Tm.row).length,.int (i:Int),.sl acc]) (xs:=t.as) (fun a=>a.names.map sRow) a0 (K:=fun acc=>some (0,[.sl acc])) (fun i hi acc ha=>by
  have hc:=ih _ (List.getElem_mem hi) (by have:=mem_sum (f:=Tm.nodes) (List.getElem_mem hi); omega)
  rw [e252_0_1];simp only [Int.toNat_natCast,rowAt_map hi,Tm.row_eq,List.length_map,inbN,hi,Int.ofNat_lt,decide_true,cond_true,nth,List.getD_cons_zero,List.getD_cons_succ,D.I,D.S,D.L,D.B,wrap_succ hi (by unfold maxLen; omega),Option.bind_some,hc]
  rw [List.length_append,List.length_map] at ha;rw [show Nat.ble (acc.length+t.as[i].names.length) M63=true from Nat.ble_eq_true_of_le (by unfold M63; omega)]
  rfl) (fun acc=>by
  rw [e252_0_1];simp)
 simp only [Int.natCast_zero] at hf;rw [names_rows];by_cases hk:t.k=1
 · rw [if_pos hk,decide_eq_true hk]
   have h1:=hf [sRow t.s] (by simp)
   simp only [sRow] at h1;simp only [cond_true,sRow];rw [h1]; rfl
 · rw [if_neg hk,decide_eq_false hk]
   have h1:=hf [] (by simp)
   simp only [cond_false];rw [h1]; rfl
theorem r347 (t:Tm) (h:t.nodes<=1048577):rn ⟨347,0,0⟩ [.int t.k,.int t.n,.str t.s,.sl (t.as.map Tm.row)]=some (0,[.bool (isG t)]):=by
 show rn _ _=_
 rw [e347_0_0];have hc:=r252 t h;simp only [hc,Option.bind_some,nth,List.getD_cons_zero,List.getD_cons_succ,D.I,D.S,D.L,D.B,List.length_map];rfl
theorem r237:∀ t:Tm,∀ a0:Rows,t.nodes<=1048577->a0.length+t.names.length<=1073741824->rn ⟨237,1,0⟩ [.int t.k,.int t.n,.str t.s,.sl (t.as.map Tm.row),.sl a0]=some (0,[.sl (a0++t.names.map sRow)]):=Tm.ind fun t ih a0 h h'=>by
 have hnd:=Tm.nodes_eq t;have hsm:=names_sum t;have hlt:=len_sum (xs:=t.as);show rn _ _=_
 rw [e237_1_0];have hf:=fun a1:Rows=>fun ha1:a1.length+(t.as.flatMap fun a=>a.names.map sRow).length<=1073741824=>cat_loop (F:=fun i acc=>rn ⟨237,1,1⟩ [.int (i:Int),.sl acc,.int t.k,.int t.n,.str t.s,.sl (t.as.map Tm.row)]) (xs:=t.as) (fun a=>a.names.map sRow) a1 (K:=fun acc=>some (0,[.sl acc])) (fun i hi acc ha=>by
  rw [List.length_append] at ha;have hx:t.as[i].nodes<=(t.as.map Tm.nodes).sum:=mem_sum (f:=Tm.nodes) (List.getElem_mem hi);have hc:=ih _ (List.getElem_mem hi) acc (by omega) (by rw [List.length_map] at ha; omega)
  rw [e237_1_1];simp only [Int.toNat_natCast,rowAt_map hi,Tm.row_eq,List.length_map,inbN,hi,Int.ofNat_lt,decide_true,cond_true,nth,List.getD_cons_zero,List.getD_cons_succ,D.I,D.S,D.L,D.B,wrap_succ hi (by unfold maxLen; omega),Option.bind_some,hc]) (fun acc=>by
  rw [e237_1_1];simp)
 simp only [Int.natCast_zero] at hf;have hle:t.names.length=(if t.k=1 then [sRow t.s] else []).length+(t.as.flatMap fun a=>a.names.map sRow).length:=by
  rw [<- List.length_append,<- names_rows,List.length_map]
 rw [names_rows];by_cases hk:t.k=1
 · rw [if_pos hk] at hle
   rw [if_pos hk,decide_eq_true hk];have h1:=hf (a0++[sRow t.s]) (by rw [List.length_append]; omega)
   simp only [sRow] at h1;simp only [cond_true,sRow,List.length_cons,List.length_nil];rw [show Nat.ble (a0.length+(0+1)) M63=true from Nat.ble_eq_true_of_le (by unfold M63; omega)]
   simp only [cond_true];rw [h1,List.append_assoc]; rfl
 · rw [if_neg hk] at hle
   rw [if_neg hk,decide_eq_false hk];have h1:=hf a0 (by rw [List.length_nil] at hle; omega)
   simp only [cond_false];rw [h1]; rfl
theorem r322 (t:Tm) (h:t.nodes<=1048577):rn ⟨322,0,0⟩ [.int t.k,.int t.n,.str t.s,.sl (t.as.map Tm.row)]=some (0,[.bool (isG t)]):=by
 show rn _ _=_
 rw [e322_0_0];have hc:=r237 t [] h (by have:=names_nodes t; simp; omega)
 simp only [hc,Option.bind_some,nth,List.getD_cons_zero,List.getD_cons_succ,D.I,D.S,D.L,D.B,List.nil_append,List.length_map];rfl
theorem r217:∀ t:Tm,∀ u:Tm,Small t->rn ⟨217,0,0⟩ [.int t.k,.int t.n,.str t.s,.sl (t.as.map Tm.row),.int u.k,.int u.n,.str u.s,.sl (u.as.map Tm.row)]=some (0,[.bool (eqb t.row u.row)]):=Tm.ind fun t ih u h=>by
 have hlt:=h.len;show rn _ _=_
 rw [e217_0_0];have hq:eqb t.row u.row=(decide (t.k=u.k)&&(decide (t.n=u.n)&&(decide (t.s=u.s)&&eqb (t.as.map Tm.row) (u.as.map Tm.row)))):=by
  rw [Tm.row_eq t,Tm.row_eq u];simp only [eqb_cons,eqb_nil,eqb_int,eqb_str,eqb_sl,Bool.and_true]
 rw [hq];try simp only [List.length_map]
 by_cases l0:u.as.length≠t.as.length
 · rw [decide_eq_false (by omega:¬(t.as.length:Int)=(u.as.length:Int)),eqb_len (fun h=>l0 (by simpa using h.symm))]
   cases decide (t.k=u.k) <;> cases decide (t.n=u.n) <;> cases decide (t.s=u.s) <;> rfl
 have l0:=Classical.not_not.1 l0;rw [decide_eq_true (by omega:(t.as.length:Int)=(u.as.length:Int))]
 have hf:=eq_loop (F:=fun i=>rn ⟨217,0,1⟩ [.int (i:Int),.int t.k,.int t.n,.str t.s,.sl (t.as.map Tm.row),.int u.k,.int u.n,.str u.s,.sl (u.as.map Tm.row)]) (xs:=t.as.map Tm.row) (ys:=u.as.map Tm.row) (A:=some (0,[])) (B:=some (1,[])) (by simpa using l0) (fun i hi=>?_) ?_
 · simp only [Int.natCast_zero] at hf
   rw [hf];cases decide (t.k=u.k) <;> cases decide (t.n=u.n) <;> cases decide (t.s=u.s) <;> cases eqb (t.as.map Tm.row) (u.as.map Tm.row) <;> rfl
 · have hi:i<t.as.length:=by simpa using hi
   have hi2:i<u.as.length:=by omega
   have hc:=ih _ (List.getElem_mem hi) u.as[i] (h.sub (List.getElem_mem hi));rw [e217_0_1];rw [List.getElem_map,List.getElem_map];generalize eqb t.as[i].row u.as[i].row=z at hc ⊢;simp only [Int.toNat_natCast,rowAt_map hi,rowAt_map hi2,Tm.row_eq,List.length_map,inbN,hi,hi2,Int.ofNat_lt,decide_true,cond_true,nth,List.getD_cons_zero,List.getD_cons_succ,D.I,D.S,D.L,D.B,wrap_succ hi (by unfold maxLen; omega),Option.bind_some,hc]
   cases z <;> rfl
 · skip
   rw [e217_0_1];simp
theorem r289:∀ t:Tm,∀ u:Tm,Small t->rn ⟨289,0,0⟩ [.int t.k,.int t.n,.str t.s,.sl (t.as.map Tm.row),.int u.k,.int u.n,.str u.s,.sl (u.as.map Tm.row)]=some (0,[.bool (eqb t.row u.row)]):=Tm.ind fun t ih u h=>by
 have hlt:=h.len;show rn _ _=_
 rw [e289_0_0];have hq:eqb t.row u.row=(decide (t.k=u.k)&&(decide (t.n=u.n)&&(decide (t.s=u.s)&&eqb (t.as.map Tm.row) (u.as.map Tm.row)))):=by
  rw [Tm.row_eq t,Tm.row_eq u];simp only [eqb_cons,eqb_nil,eqb_int,eqb_str,eqb_sl,Bool.and_true]
 rw [hq];try simp only [List.length_map]
 have hl:rn ⟨325,0,0⟩ [.sl (t.as.map Tm.row),.sl (u.as.map Tm.row)]=some (0,[.bool (eqb (t.as.map Tm.row) (u.as.map Tm.row))]):=by
  rw [e325_0_0];simp only [List.length_map];by_cases l0:u.as.length≠t.as.length
  · rw [decide_eq_false (by omega:¬(t.as.length:Int)=(u.as.length:Int)),eqb_len (fun h=>l0 (by simpa using h.symm))]; rfl
  have l0:=Classical.not_not.1 l0;rw [decide_eq_true (by omega:(t.as.length:Int)=(u.as.length:Int))]
  have hf:=eq_loop (F:=fun i=>rn ⟨325,0,1⟩ [.sl (u.as.map Tm.row),.sl (t.as.map Tm.row),.int ((t.as.map Tm.row)).length,.int (i:Int)]) (xs:=t.as.map Tm.row) (ys:=u.as.map Tm.row) (A:=some (0,[])) (B:=some (1,[])) (by simpa using l0) (fun i hi=>?_) ?_
  · simp only [Int.natCast_zero,List.length_map] at hf
    rw [hf];cases eqb (t.as.map Tm.row) (u.as.map Tm.row) <;> rfl
  · have hi:i<t.as.length:=by simpa using hi
    have hi2:i<u.as.length:=by omega
    have hc:=ih _ (List.getElem_mem hi) u.as[i] (h.sub (List.getElem_mem hi));rw [e325_0_1];rw [List.getElem_map,List.getElem_map];generalize eqb t.as[i].row u.as[i].row=z at hc ⊢;simp only [Int.toNat_natCast,rowAt_map hi,rowAt_map hi2,Tm.row_eq,List.length_map,inbN,hi,hi2,Int.ofNat_lt,decide_true,cond_true,nth,List.getD_cons_zero,List.getD_cons_succ,D.I,D.S,D.L,D.B,wrap_succ hi (by unfold maxLen; omega),Option.bind_some,hc]
    cases z <;> rfl
  · skip
    rw [e325_0_1];simp
 simp only [hl,Option.bind_some,nth,List.getD_cons_zero,List.getD_cons_succ,D.I,D.S,D.L,D.B];cases decide (t.k=u.k) <;> cases decide (t.n=u.n) <;> cases decide (t.s=u.s) <;> rfl
theorem r326 (g:Gu) (h:g.ok):rn ⟨326,0,0⟩ [.int g.k,.int g.l.k,.int g.l.n,.str g.l.s,.sl (g.l.as.map Tm.row),.int g.r.k,.int g.r.n,.str g.r.s,.sl (g.r.as.map Tm.row)]=some (0,[.bool (holds g)]):=by
 show rn _ _=_
 rw [e326_0_0];obtain ⟨hl,hr⟩:=h;have sl:=small_of _ hl;have sr:=small_of _ hr;have hl':=Nat.le_trans (rW_nodes g.l) hl;have hr':=Nat.le_trans (rW_nodes g.r) hr;have a1:=r347 g.l hl;have a2:=r347 g.r hr;have b1:=r197 g.l sl;have b2:=r197 g.r sr;have c1:=r289 (rW g.l) (rW g.r) (rW_small _ sl);have d1:=r274 (rW g.l);have d2:=r274 (rW g.r);simp only [a1,a2,b1,b2,c1,d1,d2,Option.bind_some,nth,List.getD_cons_zero,List.getD_cons_succ,D.I,D.S,D.L,D.B];unfold holds;cases isG g.l
 · rfl
 cases isG g.r
 · rfl
 simp only [Bool.not_true,cond_false,Bool.true_and];by_cases k1:g.k=1
 · rw [if_pos k1,decide_eq_true k1]; rfl
 rw [if_neg k1,decide_eq_false k1];by_cases k2:g.k=2
 · rw [if_pos k2,decide_eq_true k2]; rfl
 rw [if_neg k2,decide_eq_false k2];by_cases k3:g.k=3
 · rw [if_pos k3,decide_eq_true k3]
   cases isW (rW g.l) <;> cases isW (rW g.r) <;> rfl
 · rw [if_neg k3,decide_eq_false k3]; rfl
theorem r283 (g:Gu) (h:g.ok):rn ⟨283,0,0⟩ [.int g.k,.int g.l.k,.int g.l.n,.str g.l.s,.sl (g.l.as.map Tm.row),.int g.r.k,.int g.r.n,.str g.r.s,.sl (g.r.as.map Tm.row)]=some (0,[.bool (holds g)]):=by
 show rn _ _=_
 rw [e283_0_0];obtain ⟨hl,hr⟩:=h;have sl:=small_of _ hl;have sr:=small_of _ hr;have hl':=Nat.le_trans (rW_nodes g.l) hl;have hr':=Nat.le_trans (rW_nodes g.r) hr;have a1:=r322 (rW g.l) hl';have a2:=r322 (rW g.r) hr';have b1:=r184 g.l sl;have b2:=r184 g.r sr;have c1:=r217 (rW g.l) (rW g.r) (rW_small _ sl);have d1:=r266 (rW g.l);have d2:=r266 (rW g.r);simp only [a1,a2,b1,b2,c1,d1,d2,Option.bind_some,nth,List.getD_cons_zero,List.getD_cons_succ,D.I,D.S,D.L,D.B];unfold holds;rw [isG_rW,isG_rW];cases isG g.l
 · rfl
 cases isG g.r
 · rfl
 simp only [Bool.not_true,cond_false,Bool.true_and];by_cases k1:g.k=1
 · rw [if_pos k1,decide_eq_true k1]; rfl
 rw [if_neg k1,decide_eq_false k1];by_cases k2:g.k=2
 · rw [if_pos k2,decide_eq_true k2]; rfl
 rw [if_neg k2,decide_eq_false k2];by_cases k3:g.k=3
 · rw [if_pos k3,decide_eq_true k3]
   cases isW (rW g.l) <;> cases isW (rW g.r) <;> rfl
 · rw [if_neg k3,decide_eq_false k3]; rfl
theorem r327 (l:List Bnd) (hl:l.length<=1048576) (hs:∀ b∈l,Small b.2) (g:Gu) (h:g.ok):rn ⟨327,0,0⟩ [.sl (l.map Bnd.row),.int g.k,.int g.l.k,.int g.l.n,.str g.l.s,.sl (g.l.as.map Tm.row),.int g.r.k,.int g.r.n,.str g.r.s,.sl (g.r.as.map Tm.row)]=some (0,[.int (appG l g).k,.int (appG l g).l.k,.int (appG l g).l.n,.str (appG l g).l.s,.int (appG l g).r.k,.int (appG l g).r.n,.str (appG l g).r.s,.sl ((appG l g).l.as.map Tm.row),.sl ((appG l g).r.as.map Tm.row)]):=by
 show rn _ _=_
 rw [e327_0_0];have a1:=r198 l hl hs g.l (small_of _ h.1);have a2:=r198 l hl hs g.r (small_of _ h.2);simp only [a1,a2,Option.bind_some,nth,List.getD_cons_zero,List.getD_cons_succ,D.I,D.S,D.L,D.B];rfl
theorem r284 (l:List Bnd) (hl:l.length<=1048576) (hs:∀ b∈l,Small b.2) (g:Gu) (h:g.ok):rn ⟨284,0,0⟩ [.sl (l.map Bnd.row),.int g.k,.int g.l.k,.int g.l.n,.str g.l.s,.sl (g.l.as.map Tm.row),.int g.r.k,.int g.r.n,.str g.r.s,.sl (g.r.as.map Tm.row)]=some (0,[.int (appG l g).k,.int (appG l g).l.k,.int (appG l g).l.n,.str (appG l g).l.s,.int (appG l g).r.k,.int (appG l g).r.n,.str (appG l g).r.s,.sl ((appG l g).l.as.map Tm.row),.sl ((appG l g).r.as.map Tm.row)]):=by
 show rn _ _=_
 rw [e284_0_0];have a1:=r185 l hl hs g.l (small_of _ h.1);have a2:=r185 l hl hs g.r (small_of _ h.2);simp only [a1,a2,Option.bind_some,nth,List.getD_cons_zero,List.getD_cons_succ,D.I,D.S,D.L,D.B];rfl
theorem gu_row (g:Gu):g.row=[.int g.k,.int g.l.k,.int g.l.n,.str g.l.s,.sl (g.l.as.map Tm.row),.int g.r.k,.int g.r.n,.str g.r.s,.sl (g.r.as.map Tm.row)]:=rfl
theorem r291 (l:List Bnd) (hl:l.length<=1048576) (hs:∀ b∈l,b.2.nodes=1) (gs:List Gu) (hg:gs.length<=1048576) (h:∀ g∈gs,g.ok):rn ⟨291,0,0⟩ [.sl (l.map Bnd.row),.sl (gs.map Gu.row)]=some (0,[.bool (gs.all fun g=>holds (appG l g))]):=by
 have hss:∀ b∈l,Small b.2:=fun b hb=>small_of _ (by rw [hs b hb]; decide)
 show rn _ _=_
 rw [e291_0_0];have hf:=all_loop (F:=fun i=>rn ⟨291,0,1⟩ [.sl (l.map Bnd.row),.sl (gs.map Gu.row),.int (gs.map Gu.row).length,.int (i:Int)]) (xs:=gs) (p:=fun g=>holds (appG l g)) (A:=some (0,[])) (B:=some (1,[])) (fun i hi=>?_) ?_
 · simp only [Int.natCast_zero] at hf
   rw [hf];cases gs.all fun g=>holds (appG l g) <;> rfl
 · have hgi:=h _ (List.getElem_mem hi)
   have a1:=r327 l hl hss gs[i] hgi;have a2:=r326 (appG l gs[i]) (appG_ok hs hgi);rw [e291_0_1];simp only [Int.toNat_natCast,rowAt_map hi,gu_row,List.length_map,inbN,hi,Int.ofNat_lt,decide_true,cond_true,nth,List.getD_cons_zero,List.getD_cons_succ,D.I,D.S,D.L,D.B,wrap_succ hi (by unfold maxLen; omega),Option.bind_some,a1,a2]
   cases holds (appG l gs[i]) <;> rfl
 · skip
   rw [e291_0_1];simp
theorem cnt4_nat (n:Nat):((cnt4 n).toNat:Int)=cnt4 n/\(cnt4 n).toNat<=64:=by have:=cnt4_le n; omega
theorem r213 (vars:List ByteArray) (gs:List Gu) (hg:gs.length<=1048576) (h:∀ g∈gs,g.ok):rn ⟨213,0,0⟩ [.sl (vars.map sRow),.sl (gs.map Gu.row)]=some (0,[.sl ((allC vars gs).map nRow)]):=by
 have hN:=cnt4_nat vars.length;show rn _ _=_
 rw [e213_0_0];have hf:=filter_loop (F:=fun i acc=>rn ⟨213,0,1⟩ [.sl (vars.map sRow),.sl (gs.map Gu.row),.int (i:Int),.sl acc]) (N:=(cnt4 vars.length).toNat) (p:=fun c=>holdsIn vars gs (c:Int)) (g:=nRow) (K:=fun acc=>some (0,[.sl acc])) (fun i acc hi ha=>?_) (fun acc=>?_)
 · simp only [Int.natCast_zero] at hf
   rw [hf]; rfl
 · have a1:=r253 vars.length
   have a2:=r199 vars (i:Int);have a3:=r291 (caseS vars (i:Int)) (caseS_len ..) (caseS_nodes _ _) gs hg h;rw [e213_0_1];simp only [List.length_map,a1,a2,a3,Option.bind_some,nth,List.getD_cons_zero,List.getD_cons_succ,D.I,D.S,D.L,D.B];rw [decide_eq_true (by omega:(i:Int)<cnt4 vars.length)]
   simp only [cond_true,List.length_cons,List.length_nil,wrap_succ hi (by unfold maxLen; omega)]
   rw [show Nat.ble (acc.length+(0+1)) M63=true from Nat.ble_eq_true_of_le (by unfold M63; omega)]
   unfold holdsIn;cases gs.all fun g=>holds (appG (caseS vars (i:Int)) g) <;> rfl
 · have a1:=r253 vars.length
   rw [e213_0_1];simp only [List.length_map,a1,Option.bind_some,nth,List.getD_cons_zero,List.getD_cons_succ,D.I,D.S,D.L,D.B];rw [decide_eq_false (by omega:¬((cnt4 vars.length).toNat:Int)<cnt4 vars.length)]; rfl
theorem r205 (vars:List ByteArray) (gs:List Gu) (hg:gs.length<=1048576) (h:∀ g∈gs,g.ok):rn ⟨205,0,0⟩ [.sl (vars.map sRow),.sl (gs.map Gu.row)]=some (0,[.sl ((allC vars gs).map nRow)]):=by
 have hN:=cnt4_nat vars.length;have a1:=r155 vars.length;have hin:∀ (c:Int) (acc:Rows),rn ⟨205,0,3⟩ [.sl (vars.map sRow),.sl (gs.map Gu.row),.int (cnt4 vars.length),.int c,.bool true,.int 0,.sl acc]=some (0,[.sl (vars.map sRow),.sl (gs.map Gu.row),.int (cnt4 vars.length),.int c,.bool (holdsIn vars gs c),.sl acc]):=fun c acc=>by
  have hf:=flag_loop (F:=fun i b=>rn ⟨205,0,3⟩ [.sl (vars.map sRow),.sl (gs.map Gu.row),.int (cnt4 vars.length),.int c,.bool b,.int (i:Int),.sl acc]) (xs:=gs) (p:=fun g=>holds (appG (caseS vars c) g)) (A:=fun b=>some (0,[.sl (vars.map sRow),.sl (gs.map Gu.row),.int (cnt4 vars.length),.int c,.bool b,.sl acc])) (fun i hi b=>?_) (fun b=>?_)
  · simp only [Int.natCast_zero] at hf
    rw [hf]; rfl
  · have hss:∀ b∈caseS vars c,Small b.2:=caseS_small vars c
    have hgi:=h _ (List.getElem_mem hi);have b1:=r186 vars c;have b2:=r284 (caseS vars c) (caseS_len ..) hss gs[i] hgi;have b3:=r283 (appG (caseS vars c) gs[i]) (appG_ok (caseS_nodes _ _) hgi);rw [e205_0_3];simp only [Int.toNat_natCast,rowAt_map hi,gu_row,List.length_map,inbN,hi,Int.ofNat_lt,decide_true,cond_true,nth,List.getD_cons_zero,List.getD_cons_succ,D.I,D.S,D.L,D.B,wrap_succ hi (by unfold maxLen; omega),Option.bind_some,b1,b2,b3]
    cases b <;> rfl
  · skip
    rw [e205_0_3];simp
 show rn _ _=_
 rw [e205_0_0];have hf:=filter_loop (F:=fun i acc=>rn ⟨205,0,1⟩ [.sl (vars.map sRow),.sl (gs.map Gu.row),.int (cnt4 vars.length),.int (i:Int),.sl acc]) (N:=(cnt4 vars.length).toNat) (p:=fun c=>holdsIn vars gs (c:Int)) (g:=nRow) (K:=fun acc=>some (0,[.sl acc])) (fun i acc hi ha=>?_) (fun acc=>?_)
 · simp only [Int.natCast_zero] at hf a1
   simp only [List.length_map,a1,Option.bind_some,nth,List.getD_cons_zero,List.getD_cons_succ,D.I,D.S,D.L,D.B];rw [hf]; rfl
 · skip
   rw [e205_0_1];rw [decide_eq_true (by omega:(i:Int)<cnt4 vars.length),hin]
   simp only [cond_true,Option.bind_some,Nat.beq_refl,nth,List.getD_cons_zero,List.getD_cons_succ,D.I,D.S,D.L,D.B,List.length_cons,List.length_nil,wrap_succ hi (by unfold maxLen; omega)]
   rw [show Nat.ble (acc.length+(0+1)) M63=true from Nat.ble_eq_true_of_le (by unfold M63; omega)]
   cases holdsIn vars gs (i:Int) <;> rfl
 · skip
   rw [e205_0_1];rw [decide_eq_false (by omega:¬((cnt4 vars.length).toNat:Int)<cnt4 vars.length)]; rfl
end Go.Q.S
