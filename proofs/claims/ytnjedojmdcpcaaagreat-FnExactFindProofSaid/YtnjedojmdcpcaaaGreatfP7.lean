/- The functions of this seat, as that machine runs them. -/
import Derived.Test.YtnjedojmdcpcaaaGreatfP6
import Derived.Test.YtnjedojmdcpcaaaGreatMA
set_option linter.unusedVariables false
set_option linter.unusedSimpArgs false
namespace Go.Q.S
open Go Go.Q Go.Proofs
def opOK (so:List ByteArray) (o:OpM):Bool:=isNm o.n&&(!isB o.n&&(decide (o.a.length<=3)&&(o.a.all (fun x=>decide (x=wordS)||hasS so x)&&(decide (o.r=wordS)||hasS so o.r))))
theorem sigOK_eq (so:List ByteArray) (ops:List OpM):sigOK so ops=(decide (so.length<=4)&&(dis so&&(decide (ops.length<=16)&&((so.all fun x=>isNm x&&!decide (x=wordS))&&(ops.all (opOK so)&&dis (ops.map (·.n))))))):=rfl
theorem r241 (so:List ByteArray) (hso:so.length<=1048576) (hss:∀ x∈so,x.size<=maxLen) (ops:List OpM) (ho:SigB ops) (hon:∀ o∈ops,o.n.size<=maxLen):rn ⟨241,0,0⟩ [.sl (so.map sRow),.sl (ops.map OpM.row)]=some (0,[.bool (sigOK so ops)]):=by
 have hm:=ho.l;have hl1:∀ n i,i+n=so.length->rn ⟨241,0,1⟩ [.sl (so.map sRow),.int (so.length:Int),.int (i:Int),.sl (so.map sRow),.sl (ops.map OpM.row)]=bif (so.drop i).all (fun x=>isNm x&&!decide (x=wordS)) then some (0,[.sl (so.map sRow),.sl (ops.map OpM.row)]) else some (1,[]):=by
  intro n;induction n with
  | zero =>
   intro i hi;obtain rfl:i=so.length:=by omega
   rw [e241_0_1];simp only [List.length_map,Int.ofNat_lt,Nat.lt_irrefl,decide_false,cond_false,List.drop_length,List.all_nil,cond_true]
  | succ n ih =>
   intro i hi;have hlt:i<so.length:=by omega
   rw [e241_0_1,List.drop_eq_getElem_cons hlt];have h1:=r306 so[i] (hss _ (List.getElem_mem hlt));simp only [List.length_map,Int.ofNat_lt,hlt,decide_true,cond_true,inbN,Int.toNat_natCast,rowAt_map hlt,wrap_succ hlt (maxB (by omega)),sRow,nv0,nvS,dvI,dvB,dvS,dvL,Option.bind_some,h1,ih (i+1) (by omega),List.all_cons]
   cases isNm so[i]
   · rfl
   · by_cases hq:so[i]=wordS <;> simp [hq]
 have hl5:∀ (o:OpM),o.a.length<=1048576->∀ (x0:Rows) (x1 x2:Int) (x3:ByteArray) (x4:Bool) (x5:Rows) (x6:Int) (x7:Bool) (x11 x12:Rows) (x13:ByteArray) (x14:Rows) (x15:ByteArray),∀ n i,i+n=(o.a++[o.r]).length->rn ⟨241,0,5⟩ [.sl x0,.int x1,.int x2,.str x3,.bool x4,.sl x5,.int x6,.bool x7,.int ((o.a++[o.r]).length:Int),.int (i:Int),.sl (so.map sRow),.sl x11,.sl x12,.str x13,.sl x14,.str x15,.sl ((o.a++[o.r]).map sRow)]=bif ((o.a++[o.r]).drop i).all (fun x=>decide (x=wordS)||hasS so x) then some (0,[.sl x0,.int x1,.int x2,.str x3,.bool x4,.sl x5,.int x6,.bool x7,.sl (so.map sRow),.sl x11,.sl x12,.str x13,.sl x14,.str x15]) else some (1,[]):=by
  intro o hoa x0 x1 x2 x3 x4 x5 x6 x7 x11 x12 x13 x14 x15;have hL:(o.a++[o.r]).length<=1048577:=by simp; omega
  generalize o.a++[o.r]=l at hL ⊢;intro n;induction n with
  | zero =>
   intro i hi;obtain rfl:i=l.length:=by omega
   rw [e241_0_5];simp only [List.length_map,Int.ofNat_lt,Nat.lt_irrefl,decide_false,cond_false,List.drop_length,List.all_nil,cond_true]
  | succ n ih =>
   intro i hi;have hlt:i<l.length:=by omega
   rw [e241_0_5,List.drop_eq_getElem_cons hlt];have h1:=rContS so (maxB (by omega)) l[i]
   simp only [List.length_map,Int.ofNat_lt,hlt,decide_true,cond_true,inbN,Int.toNat_natCast,rowAt_map hlt,wrap_succ hlt (maxB (by omega)),sRow,nv0,nvS,dvI,dvB,dvS,dvL,Option.bind_some,h1,ih (i+1) (by omega),List.all_cons]
   by_cases hq:l[i]=wordS
   · simp [hq]
   · cases hasS so l[i] <;> simp [hq]
 have hl3:∀ n i (acc:List ByteArray),i+n=ops.length->acc.length<=i->rn ⟨241,0,3⟩ [.sl (ops.map OpM.row),.int (ops.length:Int),.int (i:Int),.sl (so.map sRow),.sl (ops.map OpM.row),.sl (acc.map sRow)]=bif (ops.drop i).all (opOK so) then some (0,[.sl ((acc++(ops.drop i).map (·.n)).map sRow)]) else some (1,[]):=by
  intro n;induction n with
  | zero =>
   intro i acc hi ha;obtain rfl:i=ops.length:=by omega
   rw [e241_0_3];simp only [List.length_map,Int.ofNat_lt,Nat.lt_irrefl,decide_false,cond_false,List.drop_length,List.all_nil,cond_true,List.map_nil,List.append_nil]
  | succ n ih =>
   intro i acc hi ha;have hlt:i<ops.length:=by omega
   have hmem:=List.getElem_mem hlt;rw [e241_0_3,List.drop_eq_getElem_cons hlt];have h1:=r306 ops[i].n (hon _ hmem);have hoa:ops[i].a.length<=1048576:=ho.a _ hmem;have h2:=rCloneS (ops[i].a.map sRow) (by rw [List.length_map]; omega)
   have hb:Nat.ble (ops[i].a.length+1) M63=true:=nb (by omega)
   have hb2:Nat.ble (acc.length+1) M63=true:=nb (by omega)
   have h5:=fun x0 x1 x2 x3 x4 x5 x6 x7 x11 x12 x13 x14 x15=>hl5 ops[i] hoa x0 x1 x2 x3 x4 x5 x6 x7 x11 x12 x13 x14 x15 (ops[i].a++[ops[i].r]).length 0 (by omega)
   simp only [List.drop_zero,Int.natCast_zero,List.length_append,List.length_cons,List.length_nil,Nat.zero_add,List.map_append,List.map_cons,List.map_nil,sRow] at h5;have h6:=ih (i+1) (acc++[ops[i].n]) (by omega) (by simp; omega)
   simp only [List.map_append,List.map_cons,List.map_nil,sRow] at h6;simp only [List.length_map,Int.ofNat_lt,hlt,decide_true,cond_true,inbN,Int.toNat_natCast,rowAt_map hlt,wrap_succ hlt (maxB (by omega)),OpM.row,nv0,nvS,dvI,dvB,dvS,dvL,Option.bind_some,h1,r244,h2,List.length_cons,List.length_nil,Nat.zero_add,hb,List.length_append,List.all_cons]
   rw [show opOK so ops[i]=(isNm ops[i].n&&(!isB ops[i].n&&(decide (ops[i].a.length<=3)&&(ops[i].a.all (fun x=>decide (x=wordS)||hasS so x)&&(decide (ops[i].r=wordS)||hasS so ops[i].r))))) from rfl]
   cases isNm ops[i].n
   · rfl
   · cases isB ops[i].n
     · by_cases h3:ops[i].a.length<=3
       · have h3':¬((3:Int)<(ops[i].a.length:Int)):=by omega
         simp only [h3,h3',decide_true,decide_false,cond_true,cond_false,Bool.not_true,Bool.not_false,Bool.true_and];rw [h5,List.all_append];simp only [List.all_cons,List.all_nil,Bool.and_true];cases (ops[i].a.all (fun x=>decide (x=wordS)||hasS so x)&&(decide (ops[i].r=wordS)||hasS so ops[i].r)) with
         | false=>rfl
         | true =>
          simp only [cond_true,nv0,nvS,dvI,dvB,dvS,dvL,Option.bind_some,Nat.beq_refl,cond_true,cond_false,List.length_map,hb2,wrap_succ hlt (maxB (by omega)),h6,Bool.true_and]
          simp only [List.map_append,List.map_cons,List.append_assoc,List.cons_append,List.nil_append,sRow]
       · have h3':((3:Int)<(ops[i].a.length:Int)):=by omega
         simp [h3,h3']
     · rfl
 have h1:=hl1 so.length 0 (by omega)
 have h3:=hl3 ops.length 0 [] (by omega) (Nat.zero_le _)
 simp only [List.drop_zero,Int.natCast_zero,List.map_nil,List.nil_append] at h1 h3;have hd:=r163 so (by omega)
 have hd2:=r163 (ops.map (·.n)) (by rw [List.length_map]; omega)
 rw [e241_0_0,sigOK_eq];simp only [List.length_map,hd,nv0,nvS,dvI,dvB,dvS,dvL,Option.bind_some];by_cases hs:so.length<=4
 · have hs':¬((4:Int)<(so.length:Int)):=by omega
   simp only [hs,hs',decide_true,decide_false,cond_false,Bool.true_and];cases dis so
   · rfl
   · by_cases hs2:ops.length<=16
     · have hs2':¬((16:Int)<(ops.length:Int)):=by omega
       simp only [hs2,hs2',decide_true,decide_false,cond_false,Bool.true_and,Bool.not_true,h1];cases so.all (fun x=>isNm x&&!decide (x=wordS))
       · rfl
       · simp only [cond_true,nv0,nvS,dvI,dvB,dvS,dvL,Option.bind_some,Nat.beq_refl,cond_true,cond_false,List.length_map,h3,Bool.true_and]
         cases ops.all (opOK so)
         · rfl
         · simp only [cond_true,nv0,nvS,dvI,dvB,dvS,dvL,Option.bind_some,Nat.beq_refl,cond_true,cond_false,hd2,Bool.true_and]
     · have hs2':((16:Int)<(ops.length:Int)):=by omega
       simp [hs2,hs2']
 · have hs':((4:Int)<(so.length:Int)):=by omega
   simp [hs,hs']
theorem r339 (so:List ByteArray) (hso:so.length<=1048576) (ops:Rows) (x:ByteArray):rn ⟨339,0,0⟩ [.sl (so.map sRow),.sl ops,.str x]=some (0,[.bool (decide (x=wordS)||hasS so x)]):=by
 have h1:=r235 so (maxB (by omega)) x
 rw [e339_0_0];simp only [h1,nv0,nvS,dvI,dvB,dvS,dvL,Option.bind_some,ixS_has];by_cases hq:x=wordS <;> simp [hq]
theorem r303 (so:List ByteArray) (hso:so.length<=1048576) (ops:Rows) (o:OpM) (hoa:o.a.length<=1048576) (hon:o.n.size<=maxLen):rn ⟨303,0,0⟩ [.sl (so.map sRow),.sl ops,.str o.n,.sl (o.a.map sRow),.str o.r]=some (0,[.bool (opOK so o)]):=by
 have hl:∀ n i,i+n=o.a.length->rn ⟨303,0,1⟩ [.int (i:Int),.sl (so.map sRow),.sl ops,.str o.n,.sl (o.a.map sRow),.str o.r]=bif (o.a.drop i).all (fun x=>decide (x=wordS)||hasS so x) then some (0,[.sl (so.map sRow),.sl ops,.str o.n,.sl (o.a.map sRow),.str o.r]) else some (1,[]):=by
  intro n;induction n with
  | zero =>
   intro i hi;obtain rfl:i=o.a.length:=by omega
   rw [e303_0_1];simp only [List.length_map,Int.ofNat_lt,Nat.lt_irrefl,decide_false,cond_false,List.drop_length,List.all_nil,cond_true]
  | succ n ih =>
   intro i hi;have hlt:i<o.a.length:=by omega
   rw [e303_0_1,List.drop_eq_getElem_cons hlt];have h1:=r339 so hso ops o.a[i];simp only [List.length_map,Int.ofNat_lt,hlt,decide_true,cond_true,inbN,Int.toNat_natCast,rowAt_map hlt,wrap_succ hlt (maxB (by omega)),sRow,nv0,nvS,dvI,dvB,dvS,dvL,Option.bind_some,h1,ih (i+1) (by omega),List.all_cons]
   cases (decide (o.a[i]=wordS)||hasS so o.a[i]) <;> rfl
 have h:=hl o.a.length 0 (by omega)
 simp only [List.drop_zero,Int.natCast_zero] at h;have hn:=r300 o.n hon;rw [e303_0_0,h];unfold opOK;cases (o.a.all fun x=>decide (x=wordS)||hasS so x) with
 | false=>cases isNm o.n <;> cases isB o.n <;> cases decide (o.a.length<=3) <;> rfl
 | true =>
  have i3:((o.a.length:Int)<=3)↔o.a.length<=3:=by omega
  simp only [cond_true,nv0,nvS,dvI,dvB,dvS,dvL,Option.bind_some,Nat.beq_refl,cond_true,cond_false,hn,r265,r339 so hso ops,List.length_map,i3,Bool.true_and];cases isNm o.n <;> cases isB o.n <;> cases decide (o.a.length<=3) <;> rfl
theorem r228 (so:List ByteArray) (hso:so.length<=1048576) (hss:∀ x∈so,x.size<=maxLen) (ops:List OpM) (ho:SigB ops) (hon:∀ o∈ops,o.n.size<=maxLen):rn ⟨228,0,0⟩ [.sl (so.map sRow),.sl (ops.map OpM.row)]=some (0,[.bool (sigOK so ops)]):=by
 have hm:=ho.l;have hl1:∀ n i,i+n=so.length->rn ⟨228,0,1⟩ [.int (i:Int),.sl (so.map sRow),.sl (ops.map OpM.row),.sl []]=bif (so.drop i).all (fun x=>isNm x&&!decide (x=wordS)) then some (0,[.sl (so.map sRow),.sl (ops.map OpM.row),.sl []]) else some (1,[]):=by
  intro n;induction n with
  | zero =>
   intro i hi;obtain rfl:i=so.length:=by omega
   rw [e228_0_1];simp only [List.length_map,Int.ofNat_lt,Nat.lt_irrefl,decide_false,cond_false,List.drop_length,List.all_nil,cond_true]
  | succ n ih =>
   intro i hi;have hlt:i<so.length:=by omega
   rw [e228_0_1,List.drop_eq_getElem_cons hlt];have h1:=r300 so[i] (hss _ (List.getElem_mem hlt));simp only [List.length_map,Int.ofNat_lt,hlt,decide_true,cond_true,inbN,Int.toNat_natCast,rowAt_map hlt,wrap_succ hlt (maxB (by omega)),sRow,nv0,nvS,dvI,dvB,dvS,dvL,Option.bind_some,h1,ih (i+1) (by omega),List.all_cons]
   cases isNm so[i]
   · rfl
   · by_cases hq:so[i]=wordS <;> simp [hq]
 have hl3:∀ n i (acc:List ByteArray),i+n=ops.length->acc.length<=i->rn ⟨228,0,3⟩ [.int (i:Int),.sl (so.map sRow),.sl (ops.map OpM.row),.sl (acc.map sRow)]=bif (ops.drop i).all (opOK so) then some (0,[.sl (so.map sRow),.sl (ops.map OpM.row),.sl ((acc++(ops.drop i).map (·.n)).map sRow)]) else some (1,[]):=by
  intro n;induction n with
  | zero =>
   intro i acc hi ha;obtain rfl:i=ops.length:=by omega
   rw [e228_0_3];simp only [List.length_map,Int.ofNat_lt,Nat.lt_irrefl,decide_false,cond_false,List.drop_length,List.all_nil,cond_true,List.map_nil,List.append_nil]
  | succ n ih =>
   intro i acc hi ha;have hlt:i<ops.length:=by omega
   have hmem:=List.getElem_mem hlt;rw [e228_0_3,List.drop_eq_getElem_cons hlt];have h1:=r303 so hso (ops.map OpM.row) ops[i] (ho.a _ hmem) (hon _ hmem);have hb2:Nat.ble (acc.length+1) M63=true:=nb (by omega)
   have h6:=ih (i+1) (acc++[ops[i].n]) (by omega) (by simp; omega)
   simp only [List.map_append,List.map_cons,List.map_nil,sRow] at h6;simp only [List.length_map,Int.ofNat_lt,hlt,decide_true,cond_true,inbN,Int.toNat_natCast,rowAt_map hlt,wrap_succ hlt (maxB (by omega)),OpM.row,nv0,nvS,dvI,dvB,dvS,dvL,Option.bind_some,h1,List.length_cons,List.length_nil,Nat.zero_add,hb2,h6,List.all_cons]
   cases opOK so ops[i] with
   | false=>rfl
   | true=>simp only [List.map_append,List.map_cons,List.append_assoc,List.cons_append,List.nil_append,sRow,Bool.not_true,cond_false,cond_true,Bool.true_and]
 have h1:=hl1 so.length 0 (by omega)
 have h3:=hl3 ops.length 0 [] (by omega) (Nat.zero_le _)
 simp only [List.drop_zero,Int.natCast_zero,List.map_nil,List.nil_append] at h1 h3;have hd:=r229 so (maxB (by omega))
 have hd2:=r229 (ops.map (·.n)) (by rw [List.length_map]; exact maxB (by omega))
 rw [e228_0_0,sigOK_eq,h1];have i1:((so.length:Int)<=4)↔so.length<=4:=by omega
 have i2:((ops.length:Int)<=16)↔ops.length<=16:=by omega
 cases so.all (fun x=>isNm x&&!decide (x=wordS)) with
 | false=>cases decide (so.length<=4) <;> cases dis so <;> cases decide (ops.length<=16) <;> rfl
 | true =>
  simp only [cond_true,nv0,nvS,dvI,dvB,dvS,dvL,Option.bind_some,Nat.beq_refl,cond_true,cond_false,h3,Bool.true_and];cases ops.all (opOK so) with
  | false=>cases decide (so.length<=4) <;> cases dis so <;> cases decide (ops.length<=16) <;> rfl
  | true =>
   simp only [cond_true,nv0,nvS,dvI,dvB,dvS,dvL,Option.bind_some,Nat.beq_refl,cond_true,cond_false,List.length_map,hd,hd2,i1,i2,Bool.true_and];cases decide (so.length<=4) <;> cases dis so <;> cases decide (ops.length<=16) <;> rfl
end Go.Q.S
