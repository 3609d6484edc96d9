/- The functions of this seat, as that machine runs them. -/
import Derived.Test.YtnjedojmdcpcaaaGreatfP2
import Derived.Test.YtnjedojmdcpcaaaGreatMA
set_option linter.unusedVariables false
set_option linter.unusedSimpArgs false
namespace Go.Q.S
open Go Go.Q Go.Proofs
theorem qlt (a c:Nat):decide ((c:Int)<(a:Int))=!decide (a<=c):=by by_cases h:a<=c <;> simp [h] <;> omega
theorem qle (a c:Nat):decide ((c:Int)<=(a:Int))=decide (c<=a):=by by_cases h:c<=a <;> simp [h] <;> omega
theorem maxB {n:Nat} (h:n<=1099511627776):n<=maxLen:=by unfold maxLen; omega
theorem nb {n m:Nat} (h:n+m<=274877906944):Nat.ble (n+m) M63=true:=Nat.ble_eq_true_of_le h
theorem r337 (c:Nat):rn ⟨337,0,0⟩ [.int (c:Int)]=some (0,[.bool (decide (97<=c)&&decide (c<=122))]):=by
 rw [e337_0_0,show decide ((97:Int)<=(c:Int))=decide (97<=c) from qle c 97,show decide ((c:Int)<=122)=decide (c<=122) from qle 122 c]
 cases decide (97<=c) <;> rfl
theorem r340 (c:Nat):rn ⟨340,0,0⟩ [.int (c:Int)]=some (0,[.bool (decide (48<=c)&&decide (c<=57))]):=by
 rw [e340_0_0,show decide ((48:Int)<=(c:Int))=decide (48<=c) from qle c 48,show decide ((c:Int)<=57)=decide (c<=57) from qle 57 c]
 cases decide (48<=c) <;> rfl
theorem rIn (a b c:Int):rn ⟨94,0,0⟩ [.int a,.int b,.int c]=some (0,[.bool (decide (b<=a)&&decide (a<=c))]):=r94 a b c
theorem r247 (s:ByteArray) (hs:s.size<=maxLen) (lo hi:Nat):rn ⟨247,0,0⟩ [.str s,.int (lo:Int),.int (hi:Int)]=some (0,[.bool (nameK lo hi s.data.toList)]):=by
 have hz:=size_list s;have hl:∀ n i,i+n=s.data.toList.length->rn ⟨247,0,1⟩ [.str s,.int (i:Int)]=bif (s.data.toList.drop i).all lowB then some (0,[]) else some (1,[]):=by
  intro n;induction n with
  | zero =>
   intro i hi;obtain rfl:i=s.data.toList.length:=by omega
   rw [e247_0_1];simp only [hz,List.length_map,Int.ofNat_lt,Nat.lt_irrefl,decide_false,cond_false,List.drop_length,List.all_nil,cond_true]
  | succ n ih =>
   intro i hi;have hlt:i<s.data.toList.length:=by omega
   rw [e247_0_1,List.drop_eq_getElem_cons hlt];simp only [hz,Int.ofNat_lt,hlt,decide_true,cond_true,inbN,Int.toNat_natCast,wrap_succ hlt (by omega),get_list hlt,List.all_cons,ih (i+1) (by omega),lowB]
   generalize s.data.toList[i].toNat=c;rw [show decide ((c:Int)<97)=!decide (97<=c) from qlt 97 c,show decide ((c:Int)<48)=!decide (48<=c) from qlt 48 c,show decide ((57:Int)<(c:Int))=!decide (c<=57) from qlt c 57,show decide ((122:Int)<(c:Int))=!decide (c<=122) from qlt c 122]
   cases decide (97<=c) <;> cases decide (c<=122) <;> cases decide (48<=c) <;> cases decide (c<=57) <;> simp
 have h1:=hl (s.data.toList.length-1) 1;rw [e247_0_0];have hg:∀ h:0<s.data.toList.length,s.get! 0=s.data.toList[0]:=fun h=>get_list h
 rw [hz] at hs;rw [hz];generalize s.data.toList=l at hs hz hl h1 hg ⊢;cases l with
 | nil=>rfl
 | cons b r =>
  have e0:=hg (by simp)
  have e1:=h1 (by simp; omega)
  simp only [List.drop_succ_cons,List.drop_zero] at e1;rw [show ((1:Nat):Int)=1 from rfl] at e1
  have hn:¬(((b::r).length:Nat):Int)<1:=by simp only [List.length_cons]; omega
  have hi0:inb 0 (b::r).length=true:=by simp [inb]
  rw [show decide ((8:Int)<(((b::r).length:Nat):Int))=!decide ((b::r).length<=8) from qlt _ 8]
  simp only [decide_eq_false hn,cond_false,hi0,cond_true,show Int.toNat 0=0 from rfl,e0,List.getElem_cons_zero,e1,nameK]
  rw [qlt lo b.toNat,qlt b.toNat hi];cases decide ((b::r).length<=8) <;> cases decide (lo<=b.toNat) <;> cases decide (b.toNat<=hi) <;> cases r.all lowB <;> first | rfl | (simp; done) | (simp; rfl)
theorem r306 (s:ByteArray) (hs:s.size<=maxLen):rn ⟨306,0,0⟩ [.str s]=some (0,[.bool (isNm s)]):=by
 have h:=r247 s hs 97 122;rw [e306_0_0];simp only [show ((97:Nat):Int)=97 from rfl,show ((122:Nat):Int)=122 from rfl] at h
 simp only [h,nv0,nvS,dvI,dvB,dvS,dvL,Option.bind_some]; rfl
theorem r164 (s:ByteArray) (hs:s.size<=maxLen):rn ⟨164,0,0⟩ [.str s]=some (0,[.bool (isVr s)]):=by
 have h:=r247 s hs 65 90;rw [e164_0_0];simp only [show ((65:Nat):Int)=65 from rfl,show ((90:Nat):Int)=90 from rfl] at h
 simp only [h,nv0,nvS,dvI,dvB,dvS,dvL,Option.bind_some]; rfl
theorem r304 (s:ByteArray) (hs:s.size<=maxLen):rn ⟨304,0,0⟩ [.str s]=some (0,[.bool ((s.data.toList.drop 1).all lowB&&(decide (1<=s.data.toList.length)&&decide (s.data.toList.length<=8)))]):=by
 have hz:=size_list s;have hl:∀ n i,i+n=s.data.toList.length->rn ⟨304,0,1⟩ [.str s,.int (i:Int)]=bif (s.data.toList.drop i).all lowB then some (0,[.str s]) else some (1,[]):=by
  intro n;induction n with
  | zero =>
   intro i hi;obtain rfl:i=s.data.toList.length:=by omega
   rw [e304_0_1];simp only [hz,List.length_map,Int.ofNat_lt,Nat.lt_irrefl,decide_false,cond_false,List.drop_length,List.all_nil,cond_true]
  | succ n ih =>
   intro i hi;have hlt:i<s.data.toList.length:=by omega
   rw [e304_0_1,List.drop_eq_getElem_cons hlt];simp only [hz,Int.ofNat_lt,hlt,decide_true,cond_true,inbN,Int.toNat_natCast,wrap_succ hlt (by omega),get_list hlt,List.all_cons,ih (i+1) (by omega),lowB,r337,r340,nv0,nvS,dvI,dvB,dvS,dvL,Option.bind_some]
   generalize s.data.toList[i].toNat=c;cases decide (97<=c) <;> cases decide (c<=122) <;> cases decide (48<=c) <;> cases decide (c<=57) <;> simp
 rw [e304_0_0];have hlen:decide ((1:Int)<=(s.data.toList.length:Int))=decide (1<=s.data.toList.length):=qle s.data.toList.length 1;have hlen8:decide ((s.data.toList.length:Int)<=8)=decide (s.data.toList.length<=8):=qle 8 s.data.toList.length;by_cases h0:s.data.toList.length=0
 · have e:rn ⟨304,0,1⟩ [.str s,.int 1]=some (0,[.str s]):=by
    rw [e304_0_1];rw [decide_eq_false (show ¬(1:Int)<(s.size:Int) by rw [hz]; omega)]; rfl
   simp only [e,nv0,nvS,dvI,dvB,dvS,dvL,Option.bind_some,Nat.beq_refl,cond_true,cond_false,rIn,hz,hlen,hlen8];have:s.data.toList=[]:=List.length_eq_zero_iff.1 h0;rw [this]; rfl
 · have h1:=hl (s.data.toList.length-1) 1 (by omega)
   rw [show ((1:Nat):Int)=1 from rfl] at h1
   rw [h1];cases (s.data.toList.drop 1).all lowB with
   | true=>simp only [nv0,nvS,dvI,dvB,dvS,dvL,Option.bind_some,Nat.beq_refl,cond_true,cond_false,rIn,hz,hlen,hlen8,Bool.true_and]
   | false=>rfl
theorem r300 (s:ByteArray) (hs:s.size<=maxLen):rn ⟨300,0,0⟩ [.str s]=some (0,[.bool (isNm s)]):=by
 have hr:=r304 s hs;have hz:=size_list s;rw [e300_0_0];have he:decide (s=(⟨#[]⟩:ByteArray))=decide (s.data.toList=[]):=decide_eq_decide.2 (nil_list s);have hg:∀ h:0<s.data.toList.length,s.get! 0=s.data.toList[0]:=fun h=>get_list h
 rw [he,hz];unfold isNm;generalize s.data.toList=l at hr hz hg ⊢;cases l with
 | nil=>rfl
 | cons b r =>
  have e0:=hg (by simp)
  have hi0:inb 0 (r.length+1)=true:=by simp [inb]
  simp only [show Int.toNat 0=0 from rfl,e0,List.getElem_cons_zero,List.length_cons,hi0,cond_true,decide_eq_false (List.cons_ne_nil b r),Bool.not_false,r337,nv0,nvS,dvI,dvB,dvS,dvL,Option.bind_some,hr,nameK,List.drop_succ_cons,List.drop_zero,List.length_cons]
  have:decide (1<=r.length+1)=true:=by simp
  rw [this];cases decide (97<=b.toNat) <;> cases decide (b.toNat<=122) <;> cases r.all lowB <;> cases decide (r.length+1<=8) <;> rfl
theorem r231 (s:ByteArray) (hs:s.size<=maxLen):rn ⟨231,0,0⟩ [.str s]=some (0,[.bool (isVr s)]):=by
 have hr:=r304 s hs;have hz:=size_list s;rw [e231_0_0];have he:decide (s=(⟨#[]⟩:ByteArray))=decide (s.data.toList=[]):=decide_eq_decide.2 (nil_list s);have hg:∀ h:0<s.data.toList.length,s.get! 0=s.data.toList[0]:=fun h=>get_list h
 rw [he,hz];unfold isVr;generalize s.data.toList=l at hr hz hg ⊢;cases l with
 | nil=>rfl
 | cons b r =>
  have e0:=hg (by simp)
  have hi0:inb 0 (r.length+1)=true:=by simp [inb]
  simp only [show Int.toNat 0=0 from rfl,e0,List.getElem_cons_zero,List.length_cons,hi0,cond_true,decide_eq_false (List.cons_ne_nil b r),Bool.not_false,nv0,nvS,dvI,dvB,dvS,dvL,Option.bind_some,hr,nameK,List.drop_succ_cons,List.drop_zero,List.length_cons]
  have:decide (1<=r.length+1)=true:=by simp
  rw [this,show decide ((65:Int)<=(b.toNat:Int))=decide (65<=b.toNat) from qle b.toNat 65,show decide ((b.toNat:Int)<=90)=decide (b.toNat<=90) from qle 90 b.toNat]
  cases decide (65<=b.toNat) <;> cases decide (b.toNat<=90) <;> cases r.all lowB <;> cases decide (r.length+1<=8) <;> rfl
theorem r248:∀ t:Tm,t.nodes<=2097152->rn ⟨248,0,0⟩ [.int t.k,.int t.n,.str t.s,.sl (t.as.map Tm.row)]=some (0,[.int (t.nodes:Int)]):=Tm.ind fun t ih h=>by
 have hnd:=Tm.nodes_eq t;have hls:=len_sum (xs:=t.as);have hl:∀ n i (c:Nat),i+n=t.as.length->c+((t.as.drop i).map Tm.nodes).sum<=2097152->rn ⟨248,0,1⟩ [.int (c:Int),.sl (t.as.map Tm.row),.int (t.as.length:Int),.int (i:Int)]=some (0,[.int ((c+((t.as.drop i).map Tm.nodes).sum:Nat):Int)]):=by
  intro n;induction n with
  | zero =>
   intro i c hi hc;obtain rfl:i=t.as.length:=by omega
   rw [e248_0_1];simp only [List.length_map,Int.ofNat_lt,Nat.lt_irrefl,decide_false,cond_false,List.drop_length,List.map_nil,List.sum_nil,Nat.add_zero]
  | succ n ih2 =>
   intro i c hi hc;have hlt:i<t.as.length:=by omega
   rw [List.drop_eq_getElem_cons hlt] at hc ⊢;simp only [List.map_cons,List.sum_cons] at hc ⊢;rw [e248_0_1];have h1:=ih _ (List.getElem_mem hlt) (by omega)
   simp only [List.length_map,Int.ofNat_lt,hlt,decide_true,cond_true,inbN,Int.toNat_natCast,rowAt_map hlt,wrap_succ hlt (maxB (by omega)),Tm.row_eq,nv0,nvS,dvI,dvB,dvS,dvL,Option.bind_some,h1]
   rw [IntWalk.i64_in _ (by omega),show ((c:Int)+(t.as[i].nodes:Int))=((c+t.as[i].nodes:Nat):Int) by omega,ih2 (i+1) _ (by omega) (by omega),Nat.add_assoc]
 rw [e248_0_0];have:=hl t.as.length 0 1 (by omega) (by rw [List.drop_zero]; omega)
 rw [List.drop_zero,<- hnd] at this;simp only [List.length_map,show ((1:Nat):Int)=1 from rfl,Int.natCast_zero] at this ⊢
 simp only [this,nv0,nvS,dvI,dvB,dvS,dvL,Option.bind_some,Nat.beq_refl,cond_true,cond_false]
theorem dstep (a b:Nat):(bif decide (b<a) then (a:Int) else (b:Int))=((max b a:Nat):Int):=by
 by_cases h:b<a
 · rw [decide_eq_true h,cond_true]; omega
 · rw [decide_eq_false h,cond_false]; omega
theorem r249:∀ t:Tm,t.nodes<=2097152->rn ⟨249,0,0⟩ [.int t.k,.int t.n,.str t.s,.sl (t.as.map Tm.row)]=some (0,[.int (t.depth:Int)]):=Tm.ind fun t ih h=>by
 have hnd:=Tm.nodes_eq t;have hls:=len_sum (xs:=t.as);have hdn:=Tm.depth_nodes t;have hde:=Tm.depth_eq t;have hl:∀ n i (c:Nat),i+n=t.as.length->rn ⟨249,0,1⟩ [.int (c:Int),.sl (t.as.map Tm.row),.int (t.as.length:Int),.int (i:Int)]=some (0,[.int ((max c (Tm.depthL (t.as.drop i)):Nat):Int)]):=by
  intro n;induction n with
  | zero =>
   intro i c hi;obtain rfl:i=t.as.length:=by omega
   rw [e249_0_1];simp only [List.length_map,Int.ofNat_lt,Nat.lt_irrefl,decide_false,cond_false,List.drop_length,Tm.depthL,Nat.max_zero]
  | succ n ih2 =>
   intro i c hi;have hlt:i<t.as.length:=by omega
   rw [List.drop_eq_getElem_cons hlt];have hm:=mem_sum (f:=Tm.nodes) (List.getElem_mem hlt);have h1:=ih _ (List.getElem_mem hlt) (by omega)
   rw [e249_0_1];simp only [List.length_map,Int.ofNat_lt,hlt,decide_true,cond_true,inbN,Int.toNat_natCast,rowAt_map hlt,wrap_succ hlt (maxB (by omega)),Tm.row_eq,nv0,nvS,dvI,dvB,dvS,dvL,Option.bind_some,h1]
   rw [dstep,ih2 (i+1) _ (by omega)]
   simp only [Tm.depthL,Nat.max_assoc]
 rw [e249_0_0];have:=hl t.as.length 0 0 (by omega)
 rw [List.drop_zero,Nat.zero_max] at this;simp only [List.length_map,Int.natCast_zero] at this ⊢;simp only [this,nv0,nvS,dvI,dvB,dvS,dvL,Option.bind_some,Nat.beq_refl,cond_true,cond_false];rw [IntWalk.i64_in _ (by omega),hde]; rfl
theorem r183 (a b:Nat):rn ⟨183,0,0⟩ [.int (a:Int),.int (b:Int)]=some (0,[.int ((max a b:Nat):Int)]):=by
 rw [e183_0_0];by_cases h:(b:Int)<(a:Int)
 · rw [decide_eq_true h,cond_true,show max a b=a by omega]
 · rw [decide_eq_false h,cond_false,show max a b=b by omega]
theorem r233:∀ t:Tm,t.nodes<=2097152->rn ⟨233,0,0⟩ [.int t.k,.int t.n,.str t.s,.sl (t.as.map Tm.row)]=some (0,[.int (t.depth:Int)]):=Tm.ind fun t ih h=>by
 have hnd:=Tm.nodes_eq t;have hls:=len_sum (xs:=t.as);have hdn:=Tm.depth_nodes t;have hde:=Tm.depth_eq t;have hl:∀ n i (c:Nat),i+n=t.as.length->rn ⟨233,0,1⟩ [.int (c:Int),.int (i:Int),.int t.k,.int t.n,.str t.s,.sl (t.as.map Tm.row)]=some (0,[.int ((max c (Tm.depthL (t.as.drop i)):Nat):Int)]):=by
  intro n;induction n with
  | zero =>
   intro i c hi;obtain rfl:i=t.as.length:=by omega
   rw [e233_0_1];simp only [List.length_map,Int.ofNat_lt,Nat.lt_irrefl,decide_false,cond_false,List.drop_length,Tm.depthL,Nat.max_zero]
  | succ n ih2 =>
   intro i c hi;have hlt:i<t.as.length:=by omega
   rw [List.drop_eq_getElem_cons hlt];have hm:=mem_sum (f:=Tm.nodes) (List.getElem_mem hlt);have h1:=ih _ (List.getElem_mem hlt) (by omega)
   rw [e233_0_1];simp only [List.length_map,Int.ofNat_lt,hlt,decide_true,cond_true,inbN,Int.toNat_natCast,rowAt_map hlt,wrap_succ hlt (maxB (by omega)),Tm.row_eq,nv0,nvS,dvI,dvB,dvS,dvL,Option.bind_some,h1,r183]
   have h2:=ih2 (i+1) (max c t.as[i].depth) (by omega)
   rw [h2];simp only [Tm.depthL,Nat.max_assoc]
 rw [e233_0_0];have:=hl t.as.length 0 0 (by omega)
 rw [List.drop_zero,Nat.zero_max] at this;simp only [Int.natCast_zero] at this ⊢;simp only [this,nv0,nvS,dvI,dvB,dvS,dvL,Option.bind_some,Nat.beq_refl,cond_true,cond_false];rw [IntWalk.i64_in _ (by omega),hde]; rfl
def leftI (n left:Nat):Int:=if n<=left then ((left-n:Nat):Int) else -1
theorem leftI_add {a b c:Nat} (h:a<=c):leftI b (c-a)=leftI (a+b) c:=by
 unfold leftI;by_cases hb:b<=c-a
 · rw [if_pos hb,if_pos (by omega),Nat.sub_sub]
 · rw [if_neg hb,if_neg (by omega)]
theorem r232:∀ t:Tm,∀ left:Nat,t.nodes<=2097152->left<=1048576->rn ⟨232,0,0⟩ [.int t.k,.int t.n,.str t.s,.sl (t.as.map Tm.row),.int (left:Int)]=some (0,[.int (leftI t.nodes left)]):=Tm.ind fun t ih left h hle=>by
 have hnd:=Tm.nodes_eq t;have hls:=len_sum (xs:=t.as);have hl:∀ n i (c:Nat),i+n=t.as.length->c<=1048576->rn ⟨232,0,1⟩ [.int (c:Int),.int (i:Int),.int t.k,.int t.n,.str t.s,.sl (t.as.map Tm.row)]=some (0,[.int (leftI ((t.as.drop i).map Tm.nodes).sum c)]):=by
  intro n;induction n with
  | zero =>
   intro i c hi hc;obtain rfl:i=t.as.length:=by omega
   rw [e232_0_1];simp only [List.length_map,Int.ofNat_lt,Nat.lt_irrefl,decide_false,cond_false,List.drop_length,List.map_nil,List.sum_nil,leftI,Nat.zero_le,if_true,Nat.sub_zero]
  | succ n ih2 =>
   intro i c hi hc;have hlt:i<t.as.length:=by omega
   rw [List.drop_eq_getElem_cons hlt];rw [e232_0_1];have h1:=ih _ (List.getElem_mem hlt) c (by have:=mem_sum (f:=Tm.nodes) (List.getElem_mem hlt); omega) hc
   have hc0:(0:Int)<=(c:Int):=by omega
   simp only [List.length_map,Int.ofNat_lt,hlt,decide_true,cond_true,inbN,Int.toNat_natCast,rowAt_map hlt,wrap_succ hlt (maxB (by omega)),Tm.row_eq,nv0,nvS,dvI,dvB,dvS,dvL,Option.bind_some,h1,hc0]
   simp only [List.map_cons,List.sum_cons];by_cases hq:t.as[i].nodes<=c
   · have e:leftI t.as[i].nodes c=((c-t.as[i].nodes:Nat):Int):=if_pos hq
     rw [e,ih2 (i+1) _ (by omega) (by omega),leftI_add hq]
   · have e:leftI t.as[i].nodes c=-1:=if_neg hq
     have e2:leftI (t.as[i].nodes+((t.as.drop (i+1)).map Tm.nodes).sum) c=-1:=if_neg (by omega)
     rw [e,e2,e232_0_1];have hneg:¬(0:Int)<=-1:=by decide
     simp only [hneg,decide_false,cond_false];cases decide (((i+1:Nat):Int)<((t.as.map Tm.row).length:Int)) <;> rfl
 rw [e232_0_0,IntWalk.i64_in _ (by omega)]
 by_cases hz:left=0
 · subst hz
   have e:leftI t.nodes 0=-1:=if_neg (by omega)
   have hneg:¬(0:Int)<=-1:=by decide
   have e2:rn ⟨232,0,1⟩ [.int (((0:Nat):Int)-1),.int 0,.int t.k,.int t.n,.str t.s,.sl (t.as.map Tm.row)]=some (0,[.int (-1)]):=by
    rw [e232_0_1];simp only [show (((0:Nat):Int)-1)=-1 from rfl,hneg,decide_false,cond_false]
    cases decide ((0:Int)<((t.as.map Tm.row).length:Int)) <;> rfl
   rw [e2,e]; rfl
 · have:=hl t.as.length 0 (left-1) (by omega) (by omega)
   rw [List.drop_zero] at this;rw [show (left:Int)-1=((left-1:Nat):Int) by omega]
   simp only [Int.natCast_zero] at this;simp only [this,nv0,nvS,dvI,dvB,dvS,dvL,Option.bind_some,Nat.beq_refl,cond_true,cond_false];rw [leftI_add (by omega),hnd]
end Go.Q.S
