/- The functions of this seat, as that machine runs them. -/
import Derived.Test.YtnjedojmdcpcaaaGreatQC
import Derived.Test.YtnjedojmdcpcaaaGreatfX2
set_option linter.unusedVariables false
set_option linter.unusedSimpArgs false
namespace Go.Q.S
open Go Go.Q Go.Proofs
def L49:List CT:=[.int .i64,.int .i64,.str,.sl 49]
theorem ty49:H.ty 49=some ⟨true,L49,[(0,3),(1,3),(2,9),(3,47)]⟩:=by kernel_rfl
theorem wl49 {ds:List D} (h:WL H ds L49):∃ a0 a1 a2 a3,ds=[D.int a0,D.int a1,D.str a2,D.sl a3]/\a2.size<=maxLen/\a3.length<=maxLen/\WRs H a3 L49:=by
 unfold L49 at h;obtain ⟨a0,_,rfl,_,h⟩:=wl_int h;obtain ⟨a1,_,rfl,_,h⟩:=wl_int h;obtain ⟨a2,_,rfl,b2,h⟩:=wl_str h;obtain ⟨a3,_,rfl,b3,c3,h⟩:=wl_sl ty49 h;obtain rfl:=wl_nil h;exact ⟨a0,a1,a2,a3,rfl,b2,b3,c3⟩
def L299:List CT:=[.str,.int .i64,.int .i64,.str,.sl 49]
theorem ty299:H.ty 299=some ⟨true,L299,[(0,9),(1,49)]⟩:=by kernel_rfl
theorem wl299 {ds:List D} (h:WL H ds L299):∃ a0 a1 a2 a3 a4,ds=[D.str a0,D.int a1,D.int a2,D.str a3,D.sl a4]/\a0.size<=maxLen/\a3.size<=maxLen/\a4.length<=maxLen/\WRs H a4 L49:=by
 unfold L299 at h;obtain ⟨a0,_,rfl,b0,h⟩:=wl_str h;obtain ⟨a1,_,rfl,_,h⟩:=wl_int h;obtain ⟨a2,_,rfl,_,h⟩:=wl_int h;obtain ⟨a3,_,rfl,b3,h⟩:=wl_str h;obtain ⟨a4,_,rfl,b4,c4,h⟩:=wl_sl ty49 h;obtain rfl:=wl_nil h;exact ⟨a0,a1,a2,a3,a4,rfl,b0,b3,b4,c4⟩
theorem q179 {rs rs':Rows} (hl:rs.length<=maxLen) (hl':rs'.length<=maxLen) (hW:WRs H rs L49) (hW':WRs H rs' L49) (hel:∀ r r',r∈rs->r'∈rs'->rn ⟨92,0,0⟩ (r++r')=some (0,[.bool (eqb r r')])):rn ⟨179,0,0⟩ [.sl rs,.sl rs']=some (0,[.bool (eqb rs rs')]):=by
 show rn ⟨179,0,0⟩ _=_
 rw [e179_0_0];by_cases hll:rs'.length=rs.length
 · have hf:=eq_loop (F:=fun i=>rn ⟨179,0,1⟩ [.sl rs,.sl rs',.int (i:Int)]) (A:=some (0,[])) (B:=some (1,[])) hll (fun i hi=>?_) ?_
   · simp only [Int.natCast_zero] at hf
     rw [decide_eq_true (by omega:(rs.length:Int)=(rs'.length:Int))]
     simp only [Bool.not_true,cond_false];rw [hf];cases eqb rs rs' <;> rfl
   · have hi2:i<rs'.length:=by omega
     have hw:=WRs_mem hW (List.getElem_mem hi);have hw':=WRs_mem hW' (List.getElem_mem hi2);obtain ⟨a0,a1,a2,a3,hr,b2,b3,c3⟩:=wl49 hw;obtain ⟨y0,y1,y2,y3,hr',by2,by3,cy3⟩:=wl49 hw';have hc:=hel _ _ (List.getElem_mem hi) (List.getElem_mem hi2);rw [hr,hr'] at hc;simp only [List.cons_append,List.nil_append] at hc;skip
     skip
     rw [e179_0_1];simp only [Int.toNat_natCast,rowAt_eq hi,rowAt_eq hi2,hr,hr',inbN,hi,hi2,decide_true,cond_true,Int.ofNat_lt,nth,List.getD_cons_zero,List.getD_cons_succ,D.I,D.S,D.L,D.B,wrap_succ hi hl];simp only [hc,Option.bind_some,nth,List.getD_cons_zero,List.getD_cons_succ,D.I,D.S,D.L,D.B];cases (eqb [D.int a0,D.int a1,D.str a2,D.sl a3] [D.int y0,D.int y1,D.str y2,D.sl y3]) <;> rfl
   · skip
     rw [e179_0_1];simp
 · rw [decide_eq_false (by omega:¬(rs.length:Int)=(rs'.length:Int)),eqb_len (fun h=>hll h.symm)]
   rfl
theorem q92:∀ (N:Nat) (ds es:List D),SizeOf.sizeOf ds<N->WL H ds L49->WL H es L49->rn ⟨92,0,0⟩ (ds++es)=some (0,[.bool (eqb ds es)])
 | 0,ds,es,hN,_,_=>absurd hN (Nat.not_lt_zero _)
 | N+1,ds,es,hN,h,h'=>by
  have h0:=h;have h0':=h';obtain ⟨a0,a1,a2,a3,rfl,b2,b3,c3⟩:=wl49 h;obtain ⟨y0,y1,y2,y3,rfl,by2,by3,cy3⟩:=wl49 h';show rn ⟨92,0,0⟩ [D.int a0,D.int a1,D.str a2,D.sl a3,D.int y0,D.int y1,D.str y2,D.sl y3]=_
  rw [e92_0_0];have e3:=q179 b3 by3 c3 cy3 (fun r r' hr hr'=>q92 N r r' (by have h1:=size_row hr; simp only [List.cons.sizeOf_spec,D.sl.sizeOf_spec] at hN; omega) (WRs_mem c3 hr) (WRs_mem cy3 hr'))
  skip
  simp only [e3,Option.bind_some,nth,List.getD_cons_zero,List.getD_cons_succ,D.I,D.S,D.L,D.B];simp only [eq_step,eq_end,eqb_cons,eqb_nil,eqb_int,eqb_str,eqb_bool,eqb_sl,Bool.and_true,Bool.and_assoc]
theorem q328 {ds es:List D} (h:WL H ds L299) (h':WL H es L299):rn ⟨328,0,0⟩ (ds++es)=some (0,[.bool (eqb ds es)]):=by
 have h0:=h;have h0':=h';obtain ⟨a0,a1,a2,a3,a4,rfl,b0,b3,b4,c4⟩:=wl299 h;obtain ⟨y0,y1,y2,y3,y4,rfl,by0,by3,by4,cy4⟩:=wl299 h';show rn ⟨328,0,0⟩ [D.str a0,D.int a1,D.int a2,D.str a3,D.sl a4,D.str y0,D.int y1,D.int y2,D.str y3,D.sl y4]=_
 rw [e328_0_0];have w1:WL H [D.int a1,D.int a2,D.str a3,D.sl a4] L49:=WL.part 1 4 h0;have w1p:WL H [D.int y1,D.int y2,D.str y3,D.sl y4] L49:=WL.part 1 4 h0';have e1:=q92 _ _ _ (Nat.lt_succ_self _) w1 w1p;simp only [List.cons_append,List.nil_append] at e1;skip
 simp only [e1,Option.bind_some,nth,List.getD_cons_zero,List.getD_cons_succ,D.I,D.S,D.L,D.B];simp only [eq_step,eq_end,eqb_cons,eqb_nil,eqb_int,eqb_str,eqb_bool,eqb_sl,Bool.and_true,Bool.and_assoc]
theorem q293 {rs rs':Rows} (hl:rs.length<=maxLen) (hl':rs'.length<=maxLen) (hW:WRs H rs L299) (hW':WRs H rs' L299):rn ⟨293,0,0⟩ [.sl rs,.sl rs']=some (0,[.bool (eqb rs rs')]):=by
 show rn ⟨293,0,0⟩ _=_
 rw [e293_0_0];by_cases hll:rs'.length=rs.length
 · have hf:=eq_loop (F:=fun i=>rn ⟨293,0,1⟩ [.sl rs,.sl rs',.int (i:Int)]) (A:=some (0,[])) (B:=some (1,[])) hll (fun i hi=>?_) ?_
   · simp only [Int.natCast_zero] at hf
     rw [decide_eq_true (by omega:(rs.length:Int)=(rs'.length:Int))]
     simp only [Bool.not_true,cond_false];rw [hf];cases eqb rs rs' <;> rfl
   · have hi2:i<rs'.length:=by omega
     have hw:=WRs_mem hW (List.getElem_mem hi);have hw':=WRs_mem hW' (List.getElem_mem hi2);obtain ⟨a0,a1,a2,a3,a4,hr,b0,b3,b4,c4⟩:=wl299 hw;obtain ⟨y0,y1,y2,y3,y4,hr',by0,by3,by4,cy4⟩:=wl299 hw';have hc:=q328 hw hw';rw [hr,hr'] at hc;simp only [List.cons_append,List.nil_append] at hc;skip
     skip
     rw [e293_0_1];simp only [Int.toNat_natCast,rowAt_eq hi,rowAt_eq hi2,hr,hr',inbN,hi,hi2,decide_true,cond_true,Int.ofNat_lt,nth,List.getD_cons_zero,List.getD_cons_succ,D.I,D.S,D.L,D.B,wrap_succ hi hl];simp only [hc,Option.bind_some,nth,List.getD_cons_zero,List.getD_cons_succ,D.I,D.S,D.L,D.B];cases (eqb [D.str a0,D.int a1,D.int a2,D.str a3,D.sl a4] [D.str y0,D.int y1,D.int y2,D.str y3,D.sl y4]) <;> rfl
   · skip
     rw [e293_0_1];simp
 · rw [decide_eq_false (by omega:¬(rs.length:Int)=(rs'.length:Int)),eqb_len (fun h=>hll h.symm)]
   rfl
def L9:List CT:=[.str]
theorem ty9:H.ty 9=some ⟨false,L9,[]⟩:=by kernel_rfl
theorem wl9 {ds:List D} (h:WL H ds L9):∃ a0,ds=[D.str a0]/\a0.size<=maxLen:=by
 unfold L9 at h;obtain ⟨a0,_,rfl,b0,h⟩:=wl_str h;obtain rfl:=wl_nil h;exact ⟨a0,rfl,b0⟩
def L275:List CT:=[.int .i64,.int .i64,.int .i64,.str,.sl 49,.int .i64,.int .i64,.str,.sl 49]
theorem ty275:H.ty 275=some ⟨true,L275,[(0,3),(1,49),(5,49)]⟩:=by kernel_rfl
theorem wl275 {ds:List D} (h:WL H ds L275):∃ a0 a1 a2 a3 a4 a5 a6 a7 a8,ds=[D.int a0,D.int a1,D.int a2,D.str a3,D.sl a4,D.int a5,D.int a6,D.str a7,D.sl a8]/\a3.size<=maxLen/\a4.length<=maxLen/\WRs H a4 L49/\a7.size<=maxLen/\a8.length<=maxLen/\WRs H a8 L49:=by
 unfold L275 at h;obtain ⟨a0,_,rfl,_,h⟩:=wl_int h;obtain ⟨a1,_,rfl,_,h⟩:=wl_int h;obtain ⟨a2,_,rfl,_,h⟩:=wl_int h;obtain ⟨a3,_,rfl,b3,h⟩:=wl_str h;obtain ⟨a4,_,rfl,b4,c4,h⟩:=wl_sl ty49 h;obtain ⟨a5,_,rfl,_,h⟩:=wl_int h;obtain ⟨a6,_,rfl,_,h⟩:=wl_int h;obtain ⟨a7,_,rfl,b7,h⟩:=wl_str h;obtain ⟨a8,_,rfl,b8,c8,h⟩:=wl_sl ty49 h;obtain rfl:=wl_nil h;exact ⟨a0,a1,a2,a3,a4,a5,a6,a7,a8,rfl,b3,b4,c4,b7,b8,c8⟩
def L177:List CT:=[.sl 9,.int .i64,.int .i64,.str,.sl 49,.int .i64,.int .i64,.str,.sl 49,.sl 275]
theorem ty177:H.ty 177=some ⟨true,L177,[(0,22),(1,49),(5,49),(9,175)]⟩:=by kernel_rfl
theorem wl177 {ds:List D} (h:WL H ds L177):∃ a0 a1 a2 a3 a4 a5 a6 a7 a8 a9,ds=[D.sl a0,D.int a1,D.int a2,D.str a3,D.sl a4,D.int a5,D.int a6,D.str a7,D.sl a8,D.sl a9]/\a0.length<=maxLen/\WRs H a0 L9/\a3.size<=maxLen/\a4.length<=maxLen/\WRs H a4 L49/\a7.size<=maxLen/\a8.length<=maxLen/\WRs H a8 L49/\a9.length<=maxLen/\WRs H a9 L275:=by
 unfold L177 at h;obtain ⟨a0,_,rfl,b0,c0,h⟩:=wl_sl ty9 h;obtain ⟨a1,_,rfl,_,h⟩:=wl_int h;obtain ⟨a2,_,rfl,_,h⟩:=wl_int h;obtain ⟨a3,_,rfl,b3,h⟩:=wl_str h;obtain ⟨a4,_,rfl,b4,c4,h⟩:=wl_sl ty49 h;obtain ⟨a5,_,rfl,_,h⟩:=wl_int h;obtain ⟨a6,_,rfl,_,h⟩:=wl_int h;obtain ⟨a7,_,rfl,b7,h⟩:=wl_str h;obtain ⟨a8,_,rfl,b8,c8,h⟩:=wl_sl ty49 h;obtain ⟨a9,_,rfl,b9,c9,h⟩:=wl_sl ty275 h;obtain rfl:=wl_nil h;exact ⟨a0,a1,a2,a3,a4,a5,a6,a7,a8,a9,rfl,b0,c0,b3,b4,c4,b7,b8,c8,b9,c9⟩
theorem q91 {rs rs':Rows} (hl:rs.length<=maxLen) (hl':rs'.length<=maxLen) (hW:WRs H rs L9) (hW':WRs H rs' L9):rn ⟨91,0,0⟩ [.sl rs,.sl rs']=some (0,[.bool (eqb rs rs')]):=by
 show rn ⟨91,0,0⟩ _=_
 rw [e91_0_0];by_cases hll:rs'.length=rs.length
 · have hf:=eq_loop (F:=fun i=>rn ⟨91,0,1⟩ [.sl rs,.sl rs',.int (i:Int)]) (A:=some (0,[])) (B:=some (1,[])) hll (fun i hi=>?_) ?_
   · simp only [Int.natCast_zero] at hf
     rw [decide_eq_true (by omega:(rs.length:Int)=(rs'.length:Int))]
     simp only [Bool.not_true,cond_false];rw [hf];cases eqb rs rs' <;> rfl
   · have hi2:i<rs'.length:=by omega
     have hw:=WRs_mem hW (List.getElem_mem hi);have hw':=WRs_mem hW' (List.getElem_mem hi2);obtain ⟨a0,hr,b0⟩:=wl9 hw;obtain ⟨y0,hr',by0⟩:=wl9 hw';skip
     rw [e91_0_1];simp only [Int.toNat_natCast,rowAt_eq hi,rowAt_eq hi2,hr,hr',inbN,hi,hi2,decide_true,cond_true,Int.ofNat_lt,nth,List.getD_cons_zero,List.getD_cons_succ,D.I,D.S,D.L,D.B,wrap_succ hi hl];simp only [eqb_cons,eqb_nil,eqb_int,eqb_str,eqb_bool,eqb_sl,Bool.and_true];cases (decide (a0=y0)) <;> rfl
   · skip
     rw [e91_0_1];simp
 · rw [decide_eq_false (by omega:¬(rs.length:Int)=(rs'.length:Int)),eqb_len (fun h=>hll h.symm)]
   rfl
theorem q292 {ds es:List D} (h:WL H ds L275) (h':WL H es L275):rn ⟨292,0,0⟩ (ds++es)=some (0,[.bool (eqb ds es)]):=by
 have h0:=h;have h0':=h';obtain ⟨a0,a1,a2,a3,a4,a5,a6,a7,a8,rfl,b3,b4,c4,b7,b8,c8⟩:=wl275 h;obtain ⟨y0,y1,y2,y3,y4,y5,y6,y7,y8,rfl,by3,by4,cy4,by7,by8,cy8⟩:=wl275 h';show rn ⟨292,0,0⟩ [D.int a0,D.int a1,D.int a2,D.str a3,D.sl a4,D.int a5,D.int a6,D.str a7,D.sl a8,D.int y0,D.int y1,D.int y2,D.str y3,D.sl y4,D.int y5,D.int y6,D.str y7,D.sl y8]=_
 rw [e292_0_0];have w1:WL H [D.int a1,D.int a2,D.str a3,D.sl a4] L49:=WL.part 1 4 h0;have w1p:WL H [D.int y1,D.int y2,D.str y3,D.sl y4] L49:=WL.part 1 4 h0';have e1:=q92 _ _ _ (Nat.lt_succ_self _) w1 w1p;simp only [List.cons_append,List.nil_append] at e1;skip
 have w5:WL H [D.int a5,D.int a6,D.str a7,D.sl a8] L49:=WL.part 5 4 h0;have w5p:WL H [D.int y5,D.int y6,D.str y7,D.sl y8] L49:=WL.part 5 4 h0';have e5:=q92 _ _ _ (Nat.lt_succ_self _) w5 w5p;simp only [List.cons_append,List.nil_append] at e5;skip
 simp only [e1,e5,Option.bind_some,nth,List.getD_cons_zero,List.getD_cons_succ,D.I,D.S,D.L,D.B];simp only [eq_step,eq_end,eqb_cons,eqb_nil,eqb_int,eqb_str,eqb_bool,eqb_sl,Bool.and_true,Bool.and_assoc]
theorem q214 {rs rs':Rows} (hl:rs.length<=maxLen) (hl':rs'.length<=maxLen) (hW:WRs H rs L275) (hW':WRs H rs' L275):rn ⟨214,0,0⟩ [.sl rs,.sl rs']=some (0,[.bool (eqb rs rs')]):=by
 show rn ⟨214,0,0⟩ _=_
 rw [e214_0_0];by_cases hll:rs'.length=rs.length
 · have hf:=eq_loop (F:=fun i=>rn ⟨214,0,1⟩ [.sl rs,.sl rs',.int (i:Int)]) (A:=some (0,[])) (B:=some (1,[])) hll (fun i hi=>?_) ?_
   · simp only [Int.natCast_zero] at hf
     rw [decide_eq_true (by omega:(rs.length:Int)=(rs'.length:Int))]
     simp only [Bool.not_true,cond_false];rw [hf];cases eqb rs rs' <;> rfl
   · have hi2:i<rs'.length:=by omega
     have hw:=WRs_mem hW (List.getElem_mem hi);have hw':=WRs_mem hW' (List.getElem_mem hi2);obtain ⟨a0,a1,a2,a3,a4,a5,a6,a7,a8,hr,b3,b4,c4,b7,b8,c8⟩:=wl275 hw;obtain ⟨y0,y1,y2,y3,y4,y5,y6,y7,y8,hr',by3,by4,cy4,by7,by8,cy8⟩:=wl275 hw';have hc:=q292 hw hw';rw [hr,hr'] at hc;simp only [List.cons_append,List.nil_append] at hc;skip
     skip
     rw [e214_0_1];simp only [Int.toNat_natCast,rowAt_eq hi,rowAt_eq hi2,hr,hr',inbN,hi,hi2,decide_true,cond_true,Int.ofNat_lt,nth,List.getD_cons_zero,List.getD_cons_succ,D.I,D.S,D.L,D.B,wrap_succ hi hl];simp only [hc,Option.bind_some,nth,List.getD_cons_zero,List.getD_cons_succ,D.I,D.S,D.L,D.B];cases (eqb [D.int a0,D.int a1,D.int a2,D.str a3,D.sl a4,D.int a5,D.int a6,D.str a7,D.sl a8] [D.int y0,D.int y1,D.int y2,D.str y3,D.sl y4,D.int y5,D.int y6,D.str y7,D.sl y8]) <;> rfl
   · skip
     rw [e214_0_1];simp
 · rw [decide_eq_false (by omega:¬(rs.length:Int)=(rs'.length:Int)),eqb_len (fun h=>hll h.symm)]
   rfl
theorem q132 {ds es:List D} (h:WL H ds L177) (h':WL H es L177):rn ⟨132,0,0⟩ (ds++es)=some (0,[.bool (eqb ds es)]):=by
 have h0:=h;have h0':=h';obtain ⟨a0,a1,a2,a3,a4,a5,a6,a7,a8,a9,rfl,b0,c0,b3,b4,c4,b7,b8,c8,b9,c9⟩:=wl177 h;obtain ⟨y0,y1,y2,y3,y4,y5,y6,y7,y8,y9,rfl,by0,cy0,by3,by4,cy4,by7,by8,cy8,by9,cy9⟩:=wl177 h';show rn ⟨132,0,0⟩ [D.sl a0,D.int a1,D.int a2,D.str a3,D.sl a4,D.int a5,D.int a6,D.str a7,D.sl a8,D.sl a9,D.sl y0,D.int y1,D.int y2,D.str y3,D.sl y4,D.int y5,D.int y6,D.str y7,D.sl y8,D.sl y9]=_
 rw [e132_0_0];have e0:=q91 b0 by0 c0 cy0;skip
 have w1:WL H [D.int a1,D.int a2,D.str a3,D.sl a4] L49:=WL.part 1 4 h0;have w1p:WL H [D.int y1,D.int y2,D.str y3,D.sl y4] L49:=WL.part 1 4 h0';have e1:=q92 _ _ _ (Nat.lt_succ_self _) w1 w1p;simp only [List.cons_append,List.nil_append] at e1;skip
 have w5:WL H [D.int a5,D.int a6,D.str a7,D.sl a8] L49:=WL.part 5 4 h0;have w5p:WL H [D.int y5,D.int y6,D.str y7,D.sl y8] L49:=WL.part 5 4 h0';have e5:=q92 _ _ _ (Nat.lt_succ_self _) w5 w5p;simp only [List.cons_append,List.nil_append] at e5;skip
 have e9:=q214 b9 by9 c9 cy9;skip
 simp only [e0,e1,e5,e9,Option.bind_some,nth,List.getD_cons_zero,List.getD_cons_succ,D.I,D.S,D.L,D.B];simp only [eq_step,eq_end,eqb_cons,eqb_nil,eqb_int,eqb_str,eqb_bool,eqb_sl,Bool.and_true,Bool.and_assoc]
theorem q48 {rs rs':Rows} (hl:rs.length<=maxLen) (hl':rs'.length<=maxLen) (hW:WRs H rs L177) (hW':WRs H rs' L177):rn ⟨48,0,0⟩ [.sl rs,.sl rs']=some (0,[.bool (eqb rs rs')]):=by
 show rn ⟨48,0,0⟩ _=_
 rw [e48_0_0];by_cases hll:rs'.length=rs.length
 · have hf:=eq_loop (F:=fun i=>rn ⟨48,0,1⟩ [.sl rs,.sl rs',.int (i:Int)]) (A:=some (0,[])) (B:=some (1,[])) hll (fun i hi=>?_) ?_
   · simp only [Int.natCast_zero] at hf
     rw [decide_eq_true (by omega:(rs.length:Int)=(rs'.length:Int))]
     simp only [Bool.not_true,cond_false];rw [hf];cases eqb rs rs' <;> rfl
   · have hi2:i<rs'.length:=by omega
     have hw:=WRs_mem hW (List.getElem_mem hi);have hw':=WRs_mem hW' (List.getElem_mem hi2);obtain ⟨a0,a1,a2,a3,a4,a5,a6,a7,a8,a9,hr,b0,c0,b3,b4,c4,b7,b8,c8,b9,c9⟩:=wl177 hw;obtain ⟨y0,y1,y2,y3,y4,y5,y6,y7,y8,y9,hr',by0,cy0,by3,by4,cy4,by7,by8,cy8,by9,cy9⟩:=wl177 hw';have hc:=q132 hw hw';rw [hr,hr'] at hc;simp only [List.cons_append,List.nil_append] at hc;skip
     skip
     rw [e48_0_1];simp only [Int.toNat_natCast,rowAt_eq hi,rowAt_eq hi2,hr,hr',inbN,hi,hi2,decide_true,cond_true,Int.ofNat_lt,nth,List.getD_cons_zero,List.getD_cons_succ,D.I,D.S,D.L,D.B,wrap_succ hi hl];simp only [hc,Option.bind_some,nth,List.getD_cons_zero,List.getD_cons_succ,D.I,D.S,D.L,D.B];cases (eqb [D.sl a0,D.int a1,D.int a2,D.str a3,D.sl a4,D.int a5,D.int a6,D.str a7,D.sl a8,D.sl a9] [D.sl y0,D.int y1,D.int y2,D.str y3,D.sl y4,D.int y5,D.int y6,D.str y7,D.sl y8,D.sl y9]) <;> rfl
   · skip
     rw [e48_0_1];simp
 · rw [decide_eq_false (by omega:¬(rs.length:Int)=(rs'.length:Int)),eqb_len (fun h=>hll h.symm)]
   rfl
def L286:List CT:=[.str,.sl 9,.str]
theorem ty286:H.ty 286=some ⟨true,L286,[(0,9),(1,22),(2,9)]⟩:=by kernel_rfl
theorem wl286 {ds:List D} (h:WL H ds L286):∃ a0 a1 a2,ds=[D.str a0,D.sl a1,D.str a2]/\a0.size<=maxLen/\a1.length<=maxLen/\WRs H a1 L9/\a2.size<=maxLen:=by
 unfold L286 at h;obtain ⟨a0,_,rfl,b0,h⟩:=wl_str h;obtain ⟨a1,_,rfl,b1,c1,h⟩:=wl_sl ty9 h;obtain ⟨a2,_,rfl,b2,h⟩:=wl_str h;obtain rfl:=wl_nil h;exact ⟨a0,a1,a2,rfl,b0,b1,c1,b2⟩
def L213:List CT:=[.str,.int .i64,.int .i64,.str,.sl 49,.int .i64,.int .i64,.str,.sl 49,.sl 275]
theorem ty213:H.ty 213=some ⟨true,L213,[(0,9),(1,49),(5,49),(9,175)]⟩:=by kernel_rfl
theorem wl213 {ds:List D} (h:WL H ds L213):∃ a0 a1 a2 a3 a4 a5 a6 a7 a8 a9,ds=[D.str a0,D.int a1,D.int a2,D.str a3,D.sl a4,D.int a5,D.int a6,D.str a7,D.sl a8,D.sl a9]/\a0.size<=maxLen/\a3.size<=maxLen/\a4.length<=maxLen/\WRs H a4 L49/\a7.size<=maxLen/\a8.length<=maxLen/\WRs H a8 L49/\a9.length<=maxLen/\WRs H a9 L275:=by
 unfold L213 at h;obtain ⟨a0,_,rfl,b0,h⟩:=wl_str h;obtain ⟨a1,_,rfl,_,h⟩:=wl_int h;obtain ⟨a2,_,rfl,_,h⟩:=wl_int h;obtain ⟨a3,_,rfl,b3,h⟩:=wl_str h;obtain ⟨a4,_,rfl,b4,c4,h⟩:=wl_sl ty49 h;obtain ⟨a5,_,rfl,_,h⟩:=wl_int h;obtain ⟨a6,_,rfl,_,h⟩:=wl_int h;obtain ⟨a7,_,rfl,b7,h⟩:=wl_str h;obtain ⟨a8,_,rfl,b8,c8,h⟩:=wl_sl ty49 h;obtain ⟨a9,_,rfl,b9,c9,h⟩:=wl_sl ty275 h;obtain rfl:=wl_nil h;exact ⟨a0,a1,a2,a3,a4,a5,a6,a7,a8,a9,rfl,b0,b3,b4,c4,b7,b8,c8,b9,c9⟩
def L215:List CT:=[.str,.int .i64]
theorem ty215:H.ty 215=some ⟨true,L215,[(0,9),(1,3)]⟩:=by kernel_rfl
theorem wl215 {ds:List D} (h:WL H ds L215):∃ a0 a1,ds=[D.str a0,D.int a1]/\a0.size<=maxLen:=by
 unfold L215 at h;obtain ⟨a0,_,rfl,b0,h⟩:=wl_str h;obtain ⟨a1,_,rfl,_,h⟩:=wl_int h;obtain rfl:=wl_nil h;exact ⟨a0,a1,rfl,b0⟩
def L45:List CT:=[.sl 9,.sl 286,.sl 213,.sl 215]
theorem wl45 {ds:List D} (h:WL H ds L45):∃ a0 a1 a2 a3,ds=[D.sl a0,D.sl a1,D.sl a2,D.sl a3]/\a0.length<=maxLen/\WRs H a0 L9/\a1.length<=maxLen/\WRs H a1 L286/\a2.length<=maxLen/\WRs H a2 L213/\a3.length<=maxLen/\WRs H a3 L215:=by
 unfold L45 at h;obtain ⟨a0,_,rfl,b0,c0,h⟩:=wl_sl ty9 h;obtain ⟨a1,_,rfl,b1,c1,h⟩:=wl_sl ty286 h;obtain ⟨a2,_,rfl,b2,c2,h⟩:=wl_sl ty213 h;obtain ⟨a3,_,rfl,b3,c3,h⟩:=wl_sl ty215 h;obtain rfl:=wl_nil h;exact ⟨a0,a1,a2,a3,rfl,b0,c0,b1,c1,b2,c2,b3,c3⟩
def L41:List CT:=[.sl 9,.sl 286]
theorem wl41 {ds:List D} (h:WL H ds L41):∃ a0 a1,ds=[D.sl a0,D.sl a1]/\a0.length<=maxLen/\WRs H a0 L9/\a1.length<=maxLen/\WRs H a1 L286:=by
 unfold L41 at h;obtain ⟨a0,_,rfl,b0,c0,h⟩:=wl_sl ty9 h;obtain ⟨a1,_,rfl,b1,c1,h⟩:=wl_sl ty286 h;obtain rfl:=wl_nil h;exact ⟨a0,a1,rfl,b0,c0,b1,c1⟩
theorem q263 {ds es:List D} (h:WL H ds L286) (h':WL H es L286):rn ⟨263,0,0⟩ (ds++es)=some (0,[.bool (eqb ds es)]):=by
 have h0:=h;have h0':=h';obtain ⟨a0,a1,a2,rfl,b0,b1,c1,b2⟩:=wl286 h;obtain ⟨y0,y1,y2,rfl,by0,by1,cy1,by2⟩:=wl286 h';show rn ⟨263,0,0⟩ [D.str a0,D.sl a1,D.str a2,D.str y0,D.sl y1,D.str y2]=_
 rw [e263_0_0];have e1:=q91 b1 by1 c1 cy1;skip
 simp only [e1,Option.bind_some,nth,List.getD_cons_zero,List.getD_cons_succ,D.I,D.S,D.L,D.B];simp only [eq_step,eq_end,eqb_cons,eqb_nil,eqb_int,eqb_str,eqb_bool,eqb_sl,Bool.and_true,Bool.and_assoc]
theorem q176 {rs rs':Rows} (hl:rs.length<=maxLen) (hl':rs'.length<=maxLen) (hW:WRs H rs L286) (hW':WRs H rs' L286):rn ⟨176,0,0⟩ [.sl rs,.sl rs']=some (0,[.bool (eqb rs rs')]):=by
 show rn ⟨176,0,0⟩ _=_
 rw [e176_0_0];by_cases hll:rs'.length=rs.length
 · have hf:=eq_loop (F:=fun i=>rn ⟨176,0,1⟩ [.sl rs,.sl rs',.int (i:Int)]) (A:=some (0,[])) (B:=some (1,[])) hll (fun i hi=>?_) ?_
   · simp only [Int.natCast_zero] at hf
     rw [decide_eq_true (by omega:(rs.length:Int)=(rs'.length:Int))]
     simp only [Bool.not_true,cond_false];rw [hf];cases eqb rs rs' <;> rfl
   · have hi2:i<rs'.length:=by omega
     have hw:=WRs_mem hW (List.getElem_mem hi);have hw':=WRs_mem hW' (List.getElem_mem hi2);obtain ⟨a0,a1,a2,hr,b0,b1,c1,b2⟩:=wl286 hw;obtain ⟨y0,y1,y2,hr',by0,by1,cy1,by2⟩:=wl286 hw';have hc:=q263 hw hw';rw [hr,hr'] at hc;simp only [List.cons_append,List.nil_append] at hc;skip
     skip
     rw [e176_0_1];simp only [Int.toNat_natCast,rowAt_eq hi,rowAt_eq hi2,hr,hr',inbN,hi,hi2,decide_true,cond_true,Int.ofNat_lt,nth,List.getD_cons_zero,List.getD_cons_succ,D.I,D.S,D.L,D.B,wrap_succ hi hl];simp only [hc,Option.bind_some,nth,List.getD_cons_zero,List.getD_cons_succ,D.I,D.S,D.L,D.B];cases (eqb [D.str a0,D.sl a1,D.str a2] [D.str y0,D.sl y1,D.str y2]) <;> rfl
   · skip
     rw [e176_0_1];simp
 · rw [decide_eq_false (by omega:¬(rs.length:Int)=(rs'.length:Int)),eqb_len (fun h=>hll h.symm)]
   rfl
theorem q88 {ds es:List D} (h:WL H ds L41) (h':WL H es L41):rn ⟨88,0,0⟩ (ds++es)=some (0,[.bool (eqb ds es)]):=by
 have h0:=h;have h0':=h';obtain ⟨a0,a1,rfl,b0,c0,b1,c1⟩:=wl41 h;obtain ⟨y0,y1,rfl,by0,cy0,by1,cy1⟩:=wl41 h';show rn ⟨88,0,0⟩ [D.sl a0,D.sl a1,D.sl y0,D.sl y1]=_
 rw [e88_0_0];have e0:=q91 b0 by0 c0 cy0;skip
 have e1:=q176 b1 by1 c1 cy1;skip
 simp only [e0,e1,Option.bind_some,nth,List.getD_cons_zero,List.getD_cons_succ,D.I,D.S,D.L,D.B];simp only [eq_step,eq_end,eqb_cons,eqb_nil,eqb_int,eqb_str,eqb_bool,eqb_sl,Bool.and_true,Bool.and_assoc]
theorem q177 {ds es:List D} (h:WL H ds L213) (h':WL H es L213):rn ⟨177,0,0⟩ (ds++es)=some (0,[.bool (eqb ds es)]):=by
 have h0:=h;have h0':=h';obtain ⟨a0,a1,a2,a3,a4,a5,a6,a7,a8,a9,rfl,b0,b3,b4,c4,b7,b8,c8,b9,c9⟩:=wl213 h;obtain ⟨y0,y1,y2,y3,y4,y5,y6,y7,y8,y9,rfl,by0,by3,by4,cy4,by7,by8,cy8,by9,cy9⟩:=wl213 h';show rn ⟨177,0,0⟩ [D.str a0,D.int a1,D.int a2,D.str a3,D.sl a4,D.int a5,D.int a6,D.str a7,D.sl a8,D.sl a9,D.str y0,D.int y1,D.int y2,D.str y3,D.sl y4,D.int y5,D.int y6,D.str y7,D.sl y8,D.sl y9]=_
 rw [e177_0_0];have w1:WL H [D.int a1,D.int a2,D.str a3,D.sl a4] L49:=WL.part 1 4 h0;have w1p:WL H [D.int y1,D.int y2,D.str y3,D.sl y4] L49:=WL.part 1 4 h0';have e1:=q92 _ _ _ (Nat.lt_succ_self _) w1 w1p;simp only [List.cons_append,List.nil_append] at e1;skip
 have w5:WL H [D.int a5,D.int a6,D.str a7,D.sl a8] L49:=WL.part 5 4 h0;have w5p:WL H [D.int y5,D.int y6,D.str y7,D.sl y8] L49:=WL.part 5 4 h0';have e5:=q92 _ _ _ (Nat.lt_succ_self _) w5 w5p;simp only [List.cons_append,List.nil_append] at e5;skip
 have e9:=q214 b9 by9 c9 cy9;skip
 simp only [e1,e5,e9,Option.bind_some,nth,List.getD_cons_zero,List.getD_cons_succ,D.I,D.S,D.L,D.B];simp only [eq_step,eq_end,eqb_cons,eqb_nil,eqb_int,eqb_str,eqb_bool,eqb_sl,Bool.and_true,Bool.and_assoc]
theorem q89 {rs rs':Rows} (hl:rs.length<=maxLen) (hl':rs'.length<=maxLen) (hW:WRs H rs L213) (hW':WRs H rs' L213):rn ⟨89,0,0⟩ [.sl rs,.sl rs']=some (0,[.bool (eqb rs rs')]):=by
 show rn ⟨89,0,0⟩ _=_
 rw [e89_0_0];by_cases hll:rs'.length=rs.length
 · have hf:=eq_loop (F:=fun i=>rn ⟨89,0,1⟩ [.sl rs,.sl rs',.int (i:Int)]) (A:=some (0,[])) (B:=some (1,[])) hll (fun i hi=>?_) ?_
   · simp only [Int.natCast_zero] at hf
     rw [decide_eq_true (by omega:(rs.length:Int)=(rs'.length:Int))]
     simp only [Bool.not_true,cond_false];rw [hf];cases eqb rs rs' <;> rfl
   · have hi2:i<rs'.length:=by omega
     have hw:=WRs_mem hW (List.getElem_mem hi);have hw':=WRs_mem hW' (List.getElem_mem hi2);obtain ⟨a0,a1,a2,a3,a4,a5,a6,a7,a8,a9,hr,b0,b3,b4,c4,b7,b8,c8,b9,c9⟩:=wl213 hw;obtain ⟨y0,y1,y2,y3,y4,y5,y6,y7,y8,y9,hr',by0,by3,by4,cy4,by7,by8,cy8,by9,cy9⟩:=wl213 hw';have hc:=q177 hw hw';rw [hr,hr'] at hc;simp only [List.cons_append,List.nil_append] at hc;skip
     skip
     rw [e89_0_1];simp only [Int.toNat_natCast,rowAt_eq hi,rowAt_eq hi2,hr,hr',inbN,hi,hi2,decide_true,cond_true,Int.ofNat_lt,nth,List.getD_cons_zero,List.getD_cons_succ,D.I,D.S,D.L,D.B,wrap_succ hi hl];simp only [hc,Option.bind_some,nth,List.getD_cons_zero,List.getD_cons_succ,D.I,D.S,D.L,D.B];cases (eqb [D.str a0,D.int a1,D.int a2,D.str a3,D.sl a4,D.int a5,D.int a6,D.str a7,D.sl a8,D.sl a9] [D.str y0,D.int y1,D.int y2,D.str y3,D.sl y4,D.int y5,D.int y6,D.str y7,D.sl y8,D.sl y9]) <;> rfl
   · skip
     rw [e89_0_1];simp
 · rw [decide_eq_false (by omega:¬(rs.length:Int)=(rs'.length:Int)),eqb_len (fun h=>hll h.symm)]
   rfl
theorem q178 {ds es:List D} (h:WL H ds L215) (h':WL H es L215):rn ⟨178,0,0⟩ (ds++es)=some (0,[.bool (eqb ds es)]):=by
 have h0:=h;have h0':=h';obtain ⟨a0,a1,rfl,b0⟩:=wl215 h;obtain ⟨y0,y1,rfl,by0⟩:=wl215 h';show rn ⟨178,0,0⟩ [D.str a0,D.int a1,D.str y0,D.int y1]=_
 rw [e178_0_0];simp only [eq_step,eq_end,eqb_cons,eqb_nil,eqb_int,eqb_str,eqb_bool,eqb_sl,Bool.and_true,Bool.and_assoc]
theorem q90 {rs rs':Rows} (hl:rs.length<=maxLen) (hl':rs'.length<=maxLen) (hW:WRs H rs L215) (hW':WRs H rs' L215):rn ⟨90,0,0⟩ [.sl rs,.sl rs']=some (0,[.bool (eqb rs rs')]):=by
 show rn ⟨90,0,0⟩ _=_
 rw [e90_0_0];by_cases hll:rs'.length=rs.length
 · have hf:=eq_loop (F:=fun i=>rn ⟨90,0,1⟩ [.sl rs,.sl rs',.int (i:Int)]) (A:=some (0,[])) (B:=some (1,[])) hll (fun i hi=>?_) ?_
   · simp only [Int.natCast_zero] at hf
     rw [decide_eq_true (by omega:(rs.length:Int)=(rs'.length:Int))]
     simp only [Bool.not_true,cond_false];rw [hf];cases eqb rs rs' <;> rfl
   · have hi2:i<rs'.length:=by omega
     have hw:=WRs_mem hW (List.getElem_mem hi);have hw':=WRs_mem hW' (List.getElem_mem hi2);obtain ⟨a0,a1,hr,b0⟩:=wl215 hw;obtain ⟨y0,y1,hr',by0⟩:=wl215 hw';have hc:=q178 hw hw';rw [hr,hr'] at hc;simp only [List.cons_append,List.nil_append] at hc;skip
     skip
     rw [e90_0_1];simp only [Int.toNat_natCast,rowAt_eq hi,rowAt_eq hi2,hr,hr',inbN,hi,hi2,decide_true,cond_true,Int.ofNat_lt,nth,List.getD_cons_zero,List.getD_cons_succ,D.I,D.S,D.L,D.B,wrap_succ hi hl];simp only [hc,Option.bind_some,nth,List.getD_cons_zero,List.getD_cons_succ,D.I,D.S,D.L,D.B];cases (eqb [D.str a0,D.int a1] [D.str y0,D.int y1]) <;> rfl
   · skip
     rw [e90_0_1];simp
 · rw [decide_eq_false (by omega:¬(rs.length:Int)=(rs'.length:Int)),eqb_len (fun h=>hll h.symm)]
   rfl
theorem q20 {ds es:List D} (h:WL H ds L45) (h':WL H es L45):rn ⟨20,0,0⟩ (ds++es)=some (0,[.bool (eqb ds es)]):=by
 have h0:=h;have h0':=h';obtain ⟨a0,a1,a2,a3,rfl,b0,c0,b1,c1,b2,c2,b3,c3⟩:=wl45 h;obtain ⟨y0,y1,y2,y3,rfl,by0,cy0,by1,cy1,by2,cy2,by3,cy3⟩:=wl45 h';show rn ⟨20,0,0⟩ [D.sl a0,D.sl a1,D.sl a2,D.sl a3,D.sl y0,D.sl y1,D.sl y2,D.sl y3]=_
 rw [e20_0_0];have w0:WL H [D.sl a0,D.sl a1] L41:=WL.part 0 2 h0;have w0p:WL H [D.sl y0,D.sl y1] L41:=WL.part 0 2 h0';have e0:=q88 w0 w0p;simp only [List.cons_append,List.nil_append] at e0;skip
 have e2:=q89 b2 by2 c2 cy2;skip
 have e3:=q90 b3 by3 c3 cy3;skip
 simp only [e0,e2,e3,Option.bind_some,nth,List.getD_cons_zero,List.getD_cons_succ,D.I,D.S,D.L,D.B];simp only [eq_step,eq_end,eqb_cons,eqb_nil,eqb_int,eqb_str,eqb_bool,eqb_sl,Bool.and_true,Bool.and_assoc]
def L3:List CT:=[.int .i64]
theorem ty3:H.ty 3=some ⟨false,L3,[]⟩:=by kernel_rfl
theorem wl3 {ds:List D} (h:WL H ds L3):∃ a0,ds=[D.int a0]:=by
 unfold L3 at h;obtain ⟨a0,_,rfl,_,h⟩:=wl_int h;obtain rfl:=wl_nil h;exact ⟨a0,rfl⟩
theorem q93 {rs rs':Rows} (hl:rs.length<=maxLen) (hl':rs'.length<=maxLen) (hW:WRs H rs L3) (hW':WRs H rs' L3):rn ⟨93,0,0⟩ [.sl rs,.sl rs']=some (0,[.bool (eqb rs rs')]):=by
 show rn ⟨93,0,0⟩ _=_
 rw [e93_0_0];by_cases hll:rs'.length=rs.length
 · have hf:=eq_loop (F:=fun i=>rn ⟨93,0,1⟩ [.sl rs,.sl rs',.int (i:Int)]) (A:=some (0,[])) (B:=some (1,[])) hll (fun i hi=>?_) ?_
   · simp only [Int.natCast_zero] at hf
     rw [decide_eq_true (by omega:(rs.length:Int)=(rs'.length:Int))]
     simp only [Bool.not_true,cond_false];rw [hf];cases eqb rs rs' <;> rfl
   · have hi2:i<rs'.length:=by omega
     have hw:=WRs_mem hW (List.getElem_mem hi);have hw':=WRs_mem hW' (List.getElem_mem hi2);obtain ⟨a0,hr⟩:=wl3 hw;obtain ⟨y0,hr'⟩:=wl3 hw';skip
     rw [e93_0_1];simp only [Int.toNat_natCast,rowAt_eq hi,rowAt_eq hi2,hr,hr',inbN,hi,hi2,decide_true,cond_true,Int.ofNat_lt,nth,List.getD_cons_zero,List.getD_cons_succ,D.I,D.S,D.L,D.B,wrap_succ hi hl];simp only [eqb_cons,eqb_nil,eqb_int,eqb_str,eqb_bool,eqb_sl,Bool.and_true];cases (decide (a0=y0)) <;> rfl
   · skip
     rw [e93_0_1];simp
 · rw [decide_eq_false (by omega:¬(rs.length:Int)=(rs'.length:Int)),eqb_len (fun h=>hll h.symm)]
   rfl
def L251:List CT:=[.int .i64,.sl 3,.int .i64,.sl 299]
theorem ty251:H.ty 251=some ⟨true,L251,[(0,3),(1,33),(2,3),(3,237)]⟩:=by kernel_rfl
theorem wl251 {ds:List D} (h:WL H ds L251):∃ a0 a1 a2 a3,ds=[D.int a0,D.sl a1,D.int a2,D.sl a3]/\a1.length<=maxLen/\WRs H a1 L3/\a3.length<=maxLen/\WRs H a3 L299:=by
 unfold L251 at h;obtain ⟨a0,_,rfl,_,h⟩:=wl_int h;obtain ⟨a1,_,rfl,b1,c1,h⟩:=wl_sl ty3 h;obtain ⟨a2,_,rfl,_,h⟩:=wl_int h;obtain ⟨a3,_,rfl,b3,c3,h⟩:=wl_sl ty299 h;obtain rfl:=wl_nil h;exact ⟨a0,a1,a2,a3,rfl,b1,c1,b3,c3⟩
def L85:List CT:=[.sl 251]
theorem wl85 {ds:List D} (h:WL H ds L85):∃ a0,ds=[D.sl a0]/\a0.length<=maxLen/\WRs H a0 L251:=by
 unfold L85 at h;obtain ⟨a0,_,rfl,b0,c0,h⟩:=wl_sl ty251 h;obtain rfl:=wl_nil h;exact ⟨a0,rfl,b0,c0⟩
theorem q215 {ds es:List D} (h:WL H ds L251) (h':WL H es L251):rn ⟨215,0,0⟩ (ds++es)=some (0,[.bool (eqb ds es)]):=by
 have h0:=h;have h0':=h';obtain ⟨a0,a1,a2,a3,rfl,b1,c1,b3,c3⟩:=wl251 h;obtain ⟨y0,y1,y2,y3,rfl,by1,cy1,by3,cy3⟩:=wl251 h';show rn ⟨215,0,0⟩ [D.int a0,D.sl a1,D.int a2,D.sl a3,D.int y0,D.sl y1,D.int y2,D.sl y3]=_
 rw [e215_0_0];have e1:=q93 b1 by1 c1 cy1;skip
 have e3:=q293 b3 by3 c3 cy3;skip
 simp only [e1,e3,Option.bind_some,nth,List.getD_cons_zero,List.getD_cons_succ,D.I,D.S,D.L,D.B];simp only [eq_step,eq_end,eqb_cons,eqb_nil,eqb_int,eqb_str,eqb_bool,eqb_sl,Bool.and_true,Bool.and_assoc]
theorem q133 {rs rs':Rows} (hl:rs.length<=maxLen) (hl':rs'.length<=maxLen) (hW:WRs H rs L251) (hW':WRs H rs' L251):rn ⟨133,0,0⟩ [.sl rs,.sl rs']=some (0,[.bool (eqb rs rs')]):=by
 show rn ⟨133,0,0⟩ _=_
 rw [e133_0_0];by_cases hll:rs'.length=rs.length
 · have hf:=eq_loop (F:=fun i=>rn ⟨133,0,1⟩ [.sl rs,.sl rs',.int (i:Int)]) (A:=some (0,[])) (B:=some (1,[])) hll (fun i hi=>?_) ?_
   · simp only [Int.natCast_zero] at hf
     rw [decide_eq_true (by omega:(rs.length:Int)=(rs'.length:Int))]
     simp only [Bool.not_true,cond_false];rw [hf];cases eqb rs rs' <;> rfl
   · have hi2:i<rs'.length:=by omega
     have hw:=WRs_mem hW (List.getElem_mem hi);have hw':=WRs_mem hW' (List.getElem_mem hi2);obtain ⟨a0,a1,a2,a3,hr,b1,c1,b3,c3⟩:=wl251 hw;obtain ⟨y0,y1,y2,y3,hr',by1,cy1,by3,cy3⟩:=wl251 hw';have hc:=q215 hw hw';rw [hr,hr'] at hc;simp only [List.cons_append,List.nil_append] at hc;skip
     skip
     rw [e133_0_1];simp only [Int.toNat_natCast,rowAt_eq hi,rowAt_eq hi2,hr,hr',inbN,hi,hi2,decide_true,cond_true,Int.ofNat_lt,nth,List.getD_cons_zero,List.getD_cons_succ,D.I,D.S,D.L,D.B,wrap_succ hi hl];simp only [hc,Option.bind_some,nth,List.getD_cons_zero,List.getD_cons_succ,D.I,D.S,D.L,D.B];cases (eqb [D.int a0,D.sl a1,D.int a2,D.sl a3] [D.int y0,D.sl y1,D.int y2,D.sl y3]) <;> rfl
   · skip
     rw [e133_0_1];simp
 · rw [decide_eq_false (by omega:¬(rs.length:Int)=(rs'.length:Int)),eqb_len (fun h=>hll h.symm)]
   rfl
theorem q49 {ds es:List D} (h:WL H ds L85) (h':WL H es L85):rn ⟨49,0,0⟩ (ds++es)=some (0,[.bool (eqb ds es)]):=by
 have h0:=h;have h0':=h';obtain ⟨a0,rfl,b0,c0⟩:=wl85 h;obtain ⟨y0,rfl,by0,cy0⟩:=wl85 h';show rn ⟨49,0,0⟩ [D.sl a0,D.sl y0]=_
 rw [e49_0_0];have e0:=q133 b0 by0 c0 cy0;skip
 simp only [e0,Option.bind_some,nth,List.getD_cons_zero,List.getD_cons_succ,D.I,D.S,D.L,D.B];simp only [eq_step,eq_end,eqb_cons,eqb_nil,eqb_int,eqb_str,eqb_bool,eqb_sl,Bool.and_true,Bool.and_assoc]
def L32:List CT:=[.int .i64,.int .i64,.str,.sl 32]
theorem ty32:H.ty 32=some ⟨true,L32,[(0,3),(1,3),(2,9),(3,30)]⟩:=by kernel_rfl
theorem wl32 {ds:List D} (h:WL H ds L32):∃ a0 a1 a2 a3,ds=[D.int a0,D.int a1,D.str a2,D.sl a3]/\a2.size<=maxLen/\a3.length<=maxLen/\WRs H a3 L32:=by
 unfold L32 at h;obtain ⟨a0,_,rfl,_,h⟩:=wl_int h;obtain ⟨a1,_,rfl,_,h⟩:=wl_int h;obtain ⟨a2,_,rfl,b2,h⟩:=wl_str h;obtain ⟨a3,_,rfl,b3,c3,h⟩:=wl_sl ty32 h;obtain rfl:=wl_nil h;exact ⟨a0,a1,a2,a3,rfl,b2,b3,c3⟩
def L311:List CT:=[.int .i64,.int .i64,.int .i64,.str,.sl 32,.int .i64,.int .i64,.str,.sl 32]
theorem ty311:H.ty 311=some ⟨true,L311,[(0,3),(1,32),(5,32)]⟩:=by kernel_rfl
theorem wl311 {ds:List D} (h:WL H ds L311):∃ a0 a1 a2 a3 a4 a5 a6 a7 a8,ds=[D.int a0,D.int a1,D.int a2,D.str a3,D.sl a4,D.int a5,D.int a6,D.str a7,D.sl a8]/\a3.size<=maxLen/\a4.length<=maxLen/\WRs H a4 L32/\a7.size<=maxLen/\a8.length<=maxLen/\WRs H a8 L32:=by
 unfold L311 at h;obtain ⟨a0,_,rfl,_,h⟩:=wl_int h;obtain ⟨a1,_,rfl,_,h⟩:=wl_int h;obtain ⟨a2,_,rfl,_,h⟩:=wl_int h;obtain ⟨a3,_,rfl,b3,h⟩:=wl_str h;obtain ⟨a4,_,rfl,b4,c4,h⟩:=wl_sl ty32 h;obtain ⟨a5,_,rfl,_,h⟩:=wl_int h;obtain ⟨a6,_,rfl,_,h⟩:=wl_int h;obtain ⟨a7,_,rfl,b7,h⟩:=wl_str h;obtain ⟨a8,_,rfl,b8,c8,h⟩:=wl_sl ty32 h;obtain rfl:=wl_nil h;exact ⟨a0,a1,a2,a3,a4,a5,a6,a7,a8,rfl,b3,b4,c4,b7,b8,c8⟩
def L170:List CT:=[.sl 9,.int .i64,.int .i64,.str,.sl 32,.int .i64,.int .i64,.str,.sl 32,.sl 311]
theorem ty170:H.ty 170=some ⟨true,L170,[(0,22),(1,32),(5,32),(9,168)]⟩:=by kernel_rfl
theorem wl170 {ds:List D} (h:WL H ds L170):∃ a0 a1 a2 a3 a4 a5 a6 a7 a8 a9,ds=[D.sl a0,D.int a1,D.int a2,D.str a3,D.sl a4,D.int a5,D.int a6,D.str a7,D.sl a8,D.sl a9]/\a0.length<=maxLen/\WRs H a0 L9/\a3.size<=maxLen/\a4.length<=maxLen/\WRs H a4 L32/\a7.size<=maxLen/\a8.length<=maxLen/\WRs H a8 L32/\a9.length<=maxLen/\WRs H a9 L311:=by
 unfold L170 at h;obtain ⟨a0,_,rfl,b0,c0,h⟩:=wl_sl ty9 h;obtain ⟨a1,_,rfl,_,h⟩:=wl_int h;obtain ⟨a2,_,rfl,_,h⟩:=wl_int h;obtain ⟨a3,_,rfl,b3,h⟩:=wl_str h;obtain ⟨a4,_,rfl,b4,c4,h⟩:=wl_sl ty32 h;obtain ⟨a5,_,rfl,_,h⟩:=wl_int h;obtain ⟨a6,_,rfl,_,h⟩:=wl_int h;obtain ⟨a7,_,rfl,b7,h⟩:=wl_str h;obtain ⟨a8,_,rfl,b8,c8,h⟩:=wl_sl ty32 h;obtain ⟨a9,_,rfl,b9,c9,h⟩:=wl_sl ty311 h;obtain rfl:=wl_nil h;exact ⟨a0,a1,a2,a3,a4,a5,a6,a7,a8,a9,rfl,b0,c0,b3,b4,c4,b7,b8,c8,b9,c9⟩
theorem s76 {rs:Rows} (hl:rs.length<=maxLen) (hW:WRs H rs L9) {b:Int} (hb:Bd b):rn ⟨76,0,0⟩ [.sl rs,.int b]=some (0,[.int (sub b (D.sz (.sl rs)))]):=by
 show rn ⟨76,0,0⟩ _=_
 rw [e76_0_0];simp only [D.sz];refine sz_pay hb hl (F:=fun c=>(rn ⟨76,0,1⟩ [.sl rs,.int c,.int 0]).bind fun r1=>bif Nat.beq r1.1 0 then some (0,[.int ((nth r1.2 0).I)]) else bif Nat.beq r1.1 1 then some (0,[.int ((nth r1.2 0).I)]) else none) fun c hc h0=>?_
 have:=sz_loop (F:=fun i b=>rn ⟨76,0,1⟩ [.sl rs,.int b,.int (i:Int)]) (rows:=rs) (fun i hi b hb h0=>?_) (fun b hb=>?_) hc h0
 · simp only [Int.natCast_zero] at this
   show ((rn _ _).bind _=_)
   rw [this];split
   · rfl
   · rename_i hh; rw [sub_neg _ (by omega)]; rfl
 · have hw:=WRs_mem hW (List.getElem_mem hi)
   obtain ⟨a0,hr,b0⟩:=wl9 hw;rw [hr] at hw;have hz:szL [.str a0]=a0.size:=by simp only [szL,D.sz]; rfl
   have hq:szL rs[i]=a0.size:=by rw [hr]; simp only [szL,D.sz]; omega
   rw [hq];skip
   rw [e76_0_1];simp only [Int.toNat_natCast,rowAt_eq hi,hr,inbN,hi,decide_true,cond_true,Int.ofNat_lt,nth,List.getD_cons_zero,List.getD_cons_succ,D.I,D.S,D.L,D.B,wrap_succ hi hl];rcases sz_case hb b0 with ⟨hh,he⟩ | he
   · rw [decide_eq_true hh,if_neg (by rw [he]; decide)]; rfl
   · rw [he]
     by_cases hq:0<=sub b a0.size
     · rw [if_pos hq,decide_eq_false (by omega)]; rfl
     · rw [if_neg hq,decide_eq_true (by omega)]; rfl
 · skip
   rw [e76_0_1];simp
theorem s149 {rs:Rows} (hl:rs.length<=maxLen) (hW:WRs H rs L32) (hel:∀ r∈rs,∀ b,Bd b->rn ⟨77,0,0⟩ (r++[.int b])=some (0,[.int (sub b (szL r))])) {b:Int} (hb:Bd b):rn ⟨149,0,0⟩ [.sl rs,.int b]=some (0,[.int (sub b (D.sz (.sl rs)))]):=by
 show rn ⟨149,0,0⟩ _=_
 rw [e149_0_0];simp only [D.sz];refine sz_pay hb hl (F:=fun c=>(rn ⟨149,0,1⟩ [.sl rs,.int c,.int 0]).bind fun r1=>bif Nat.beq r1.1 0 then some (0,[.int ((nth r1.2 0).I)]) else bif Nat.beq r1.1 1 then some (0,[.int ((nth r1.2 0).I)]) else none) fun c hc h0=>?_
 have:=sz_loop (F:=fun i b=>rn ⟨149,0,1⟩ [.sl rs,.int b,.int (i:Int)]) (rows:=rs) (fun i hi b hb h0=>?_) (fun b hb=>?_) hc h0
 · simp only [Int.natCast_zero] at this
   show ((rn _ _).bind _=_)
   rw [this];split
   · rfl
   · rename_i hh; rw [sub_neg _ (by omega)]; rfl
 · have hw:=WRs_mem hW (List.getElem_mem hi)
   obtain ⟨a0,a1,a2,a3,hr,b2,b3,c3⟩:=wl32 hw;rw [hr] at hw;have hc:=hel rs[i] (List.getElem_mem hi) b hb;generalize hq:szL rs[i]=q at hc ⊢;rw [hr] at hc;simp only [List.cons_append,List.nil_append] at hc;skip
   rw [e149_0_1];simp only [Int.toNat_natCast,rowAt_eq hi,hr,inbN,hi,decide_true,cond_true,Int.ofNat_lt,nth,List.getD_cons_zero,List.getD_cons_succ,D.I,D.S,D.L,D.B,wrap_succ hi hl];rw [hc];simp only [Option.bind_some,nth,List.getD_cons_zero,List.getD_cons_succ,D.I,D.S,D.L,D.B];by_cases hq:0<=sub b q
   · rw [if_pos hq,decide_eq_false (by omega)]; rfl
   · rw [if_neg hq,decide_eq_true (by omega)]; rfl
 · skip
   rw [e149_0_1];simp
theorem s77:∀ (N:Nat) (ds:List D),SizeOf.sizeOf ds<N->WL H ds L32->∀ b,Bd b->rn ⟨77,0,0⟩ (ds++[.int b])=some (0,[.int (sub b (szL ds))])
 | 0,ds,hN,_,_,_=>absurd hN (Nat.not_lt_zero _)
 | N+1,ds,hN,h,b,hb=>by
  have h0:=h;obtain ⟨a0,a1,a2,a3,rfl,b2,b3,c3⟩:=wl32 h;show rn ⟨77,0,0⟩ [D.int a0,D.int a1,D.str a2,D.sl a3,.int b]=_
  rw [e77_0_0];rcases sz_case (b:=b) hb b2 with ⟨hh,he⟩ | he
  · simp only [decide_eq_true hh,cond_true,Bool.cond_self]
    exact sub_dead he hb (by simp only [szL,D.sz]; omega)
  simp only [he];have e3:=s149 (b:=(sub b a2.size)) b3 c3 (fun r hr b hb=>s77 N r (by have h1:=size_row hr; simp only [List.cons.sizeOf_spec,D.sl.sizeOf_spec] at hN; omega) (WRs_mem c3 hr) b hb) (Bd.sub hb _)
  skip
  simp only [e3,Option.bind_some,nth,List.getD_cons_zero,List.getD_cons_succ,D.I,D.S,D.L,D.B];rw [sz_end _ (Bd.sub (Bd.sub hb _) _)];rw [sz_step _ (Bd.sub hb _)];rw [sub_sub hb];exact sub_congr (by simp only [szL,D.sz] <;> omega)
theorem s277 {ds:List D} (h:WL H ds L311) {b:Int} (hb:Bd b):rn ⟨277,0,0⟩ (ds++[.int b])=some (0,[.int (sub b (szL ds))]):=by
 have h0:=h;obtain ⟨a0,a1,a2,a3,a4,a5,a6,a7,a8,rfl,b3,b4,c4,b7,b8,c8⟩:=wl311 h;show rn ⟨277,0,0⟩ [D.int a0,D.int a1,D.int a2,D.str a3,D.sl a4,D.int a5,D.int a6,D.str a7,D.sl a8,.int b]=_
 rw [e277_0_0];have w1:WL H [D.int a1,D.int a2,D.str a3,D.sl a4] L32:=WL.part 1 4 h0;have e1:=s77 _ _ (Nat.lt_succ_self _) w1 b hb;simp only [List.cons_append,List.nil_append] at e1;skip
 simp only [e1,Option.bind_some,nth,List.getD_cons_zero,List.getD_cons_succ,D.I,D.S,D.L,D.B];have w5:WL H [D.int a5,D.int a6,D.str a7,D.sl a8] L32:=WL.part 5 4 h0;have e5:=s77 _ _ (Nat.lt_succ_self _) w5 (sub b (szL [D.int a1,D.int a2,D.str a3,D.sl a4])) (Bd.sub hb _);simp only [List.cons_append,List.nil_append] at e5;skip
 simp only [e5,Option.bind_some,nth,List.getD_cons_zero,List.getD_cons_succ,D.I,D.S,D.L,D.B];rw [sz_end _ (Bd.sub (Bd.sub hb _) _)];rw [sz_step _ (Bd.sub hb _)];rw [sub_sub hb];exact sub_congr (by simp only [szL,D.sz] <;> omega)
theorem s200 {rs:Rows} (hl:rs.length<=maxLen) (hW:WRs H rs L311) {b:Int} (hb:Bd b):rn ⟨200,0,0⟩ [.sl rs,.int b]=some (0,[.int (sub b (D.sz (.sl rs)))]):=by
 show rn ⟨200,0,0⟩ _=_
 rw [e200_0_0];simp only [D.sz];refine sz_pay hb hl (F:=fun c=>(rn ⟨200,0,1⟩ [.sl rs,.int c,.int 0]).bind fun r1=>bif Nat.beq r1.1 0 then some (0,[.int ((nth r1.2 0).I)]) else bif Nat.beq r1.1 1 then some (0,[.int ((nth r1.2 0).I)]) else none) fun c hc h0=>?_
 have:=sz_loop (F:=fun i b=>rn ⟨200,0,1⟩ [.sl rs,.int b,.int (i:Int)]) (rows:=rs) (fun i hi b hb h0=>?_) (fun b hb=>?_) hc h0
 · simp only [Int.natCast_zero] at this
   show ((rn _ _).bind _=_)
   rw [this];split
   · rfl
   · rename_i hh; rw [sub_neg _ (by omega)]; rfl
 · have hw:=WRs_mem hW (List.getElem_mem hi)
   obtain ⟨a0,a1,a2,a3,a4,a5,a6,a7,a8,hr,b3,b4,c4,b7,b8,c8⟩:=wl311 hw;rw [hr] at hw;have hc:=s277 hw hb;rw [<- hr] at hc;generalize hq:szL rs[i]=q at hc ⊢;rw [hr] at hc;simp only [List.cons_append,List.nil_append] at hc;skip
   rw [e200_0_1];simp only [Int.toNat_natCast,rowAt_eq hi,hr,inbN,hi,decide_true,cond_true,Int.ofNat_lt,nth,List.getD_cons_zero,List.getD_cons_succ,D.I,D.S,D.L,D.B,wrap_succ hi hl];rw [hc];simp only [Option.bind_some,nth,List.getD_cons_zero,List.getD_cons_succ,D.I,D.S,D.L,D.B];by_cases hq:0<=sub b q
   · rw [if_pos hq,decide_eq_false (by omega)]; rfl
   · rw [if_neg hq,decide_eq_true (by omega)]; rfl
 · skip
   rw [e200_0_1];simp
theorem s122 {ds:List D} (h:WL H ds L170) {b:Int} (hb:Bd b):rn ⟨122,0,0⟩ (ds++[.int b])=some (0,[.int (sub b (szL ds))]):=by
 have h0:=h;obtain ⟨a0,a1,a2,a3,a4,a5,a6,a7,a8,a9,rfl,b0,c0,b3,b4,c4,b7,b8,c8,b9,c9⟩:=wl170 h;show rn ⟨122,0,0⟩ [D.sl a0,D.int a1,D.int a2,D.str a3,D.sl a4,D.int a5,D.int a6,D.str a7,D.sl a8,D.sl a9,.int b]=_
 rw [e122_0_0];have e0:=s76 (b:=b) b0 c0 hb;skip
 simp only [e0,Option.bind_some,nth,List.getD_cons_zero,List.getD_cons_succ,D.I,D.S,D.L,D.B];have w1:WL H [D.int a1,D.int a2,D.str a3,D.sl a4] L32:=WL.part 1 4 h0;have e1:=s77 _ _ (Nat.lt_succ_self _) w1 (sub b (D.sz (.sl a0))) (Bd.sub hb _);simp only [List.cons_append,List.nil_append] at e1;skip
 simp only [e1,Option.bind_some,nth,List.getD_cons_zero,List.getD_cons_succ,D.I,D.S,D.L,D.B];have w5:WL H [D.int a5,D.int a6,D.str a7,D.sl a8] L32:=WL.part 5 4 h0;have e5:=s77 _ _ (Nat.lt_succ_self _) w5 (sub (sub b (D.sz (.sl a0))) (szL [D.int a1,D.int a2,D.str a3,D.sl a4])) (Bd.sub (Bd.sub hb _) _);simp only [List.cons_append,List.nil_append] at e5;skip
 simp only [e5,Option.bind_some,nth,List.getD_cons_zero,List.getD_cons_succ,D.I,D.S,D.L,D.B];have e9:=s200 (b:=(sub (sub (sub b (D.sz (.sl a0))) (szL [D.int a1,D.int a2,D.str a3,D.sl a4])) (szL [D.int a5,D.int a6,D.str a7,D.sl a8]))) b9 c9 (Bd.sub (Bd.sub (Bd.sub hb _) _) _);skip
 simp only [e9,Option.bind_some,nth,List.getD_cons_zero,List.getD_cons_succ,D.I,D.S,D.L,D.B];rw [sz_end _ (Bd.sub (Bd.sub (Bd.sub (Bd.sub hb _) _) _) _)];rw [sz_step _ (Bd.sub (Bd.sub (Bd.sub hb _) _) _)];rw [sub_sub (Bd.sub (Bd.sub hb _) _)];rw [sz_step _ (Bd.sub (Bd.sub hb _) _)];rw [sub_sub (Bd.sub hb _)];rw [sz_step _ (Bd.sub hb _)];rw [sub_sub hb];exact sub_congr (by simp only [szL,D.sz] <;> omega)
theorem s42 {rs:Rows} (hl:rs.length<=maxLen) (hW:WRs H rs L170) {b:Int} (hb:Bd b):rn ⟨42,0,0⟩ [.sl rs,.int b]=some (0,[.int (sub b (D.sz (.sl rs)))]):=by
 show rn ⟨42,0,0⟩ _=_
 rw [e42_0_0];simp only [D.sz];refine sz_pay hb hl (F:=fun c=>(rn ⟨42,0,1⟩ [.sl rs,.int c,.int 0]).bind fun r1=>bif Nat.beq r1.1 0 then some (0,[.int ((nth r1.2 0).I)]) else bif Nat.beq r1.1 1 then some (0,[.int ((nth r1.2 0).I)]) else none) fun c hc h0=>?_
 have:=sz_loop (F:=fun i b=>rn ⟨42,0,1⟩ [.sl rs,.int b,.int (i:Int)]) (rows:=rs) (fun i hi b hb h0=>?_) (fun b hb=>?_) hc h0
 · simp only [Int.natCast_zero] at this
   show ((rn _ _).bind _=_)
   rw [this];split
   · rfl
   · rename_i hh; rw [sub_neg _ (by omega)]; rfl
 · have hw:=WRs_mem hW (List.getElem_mem hi)
   obtain ⟨a0,a1,a2,a3,a4,a5,a6,a7,a8,a9,hr,b0,c0,b3,b4,c4,b7,b8,c8,b9,c9⟩:=wl170 hw;rw [hr] at hw;have hc:=s122 hw hb;rw [<- hr] at hc;generalize hq:szL rs[i]=q at hc ⊢;rw [hr] at hc;simp only [List.cons_append,List.nil_append] at hc;skip
   rw [e42_0_1];simp only [Int.toNat_natCast,rowAt_eq hi,hr,inbN,hi,decide_true,cond_true,Int.ofNat_lt,nth,List.getD_cons_zero,List.getD_cons_succ,D.I,D.S,D.L,D.B,wrap_succ hi hl];rw [hc];simp only [Option.bind_some,nth,List.getD_cons_zero,List.getD_cons_succ,D.I,D.S,D.L,D.B];by_cases hq:0<=sub b q
   · rw [if_pos hq,decide_eq_false (by omega)]; rfl
   · rw [if_neg hq,decide_eq_true (by omega)]; rfl
 · skip
   rw [e42_0_1];simp
def L279:List CT:=[.str,.sl 9,.str]
theorem ty279:H.ty 279=some ⟨true,L279,[(0,9),(1,22),(2,9)]⟩:=by kernel_rfl
theorem wl279 {ds:List D} (h:WL H ds L279):∃ a0 a1 a2,ds=[D.str a0,D.sl a1,D.str a2]/\a0.size<=maxLen/\a1.length<=maxLen/\WRs H a1 L9/\a2.size<=maxLen:=by
 unfold L279 at h;obtain ⟨a0,_,rfl,b0,h⟩:=wl_str h;obtain ⟨a1,_,rfl,b1,c1,h⟩:=wl_sl ty9 h;obtain ⟨a2,_,rfl,b2,h⟩:=wl_str h;obtain rfl:=wl_nil h;exact ⟨a0,a1,a2,rfl,b0,b1,c1,b2⟩
def L197:List CT:=[.str,.int .i64,.int .i64,.str,.sl 32,.int .i64,.int .i64,.str,.sl 32,.sl 311]
theorem ty197:H.ty 197=some ⟨true,L197,[(0,9),(1,32),(5,32),(9,168)]⟩:=by kernel_rfl
theorem wl197 {ds:List D} (h:WL H ds L197):∃ a0 a1 a2 a3 a4 a5 a6 a7 a8 a9,ds=[D.str a0,D.int a1,D.int a2,D.str a3,D.sl a4,D.int a5,D.int a6,D.str a7,D.sl a8,D.sl a9]/\a0.size<=maxLen/\a3.size<=maxLen/\a4.length<=maxLen/\WRs H a4 L32/\a7.size<=maxLen/\a8.length<=maxLen/\WRs H a8 L32/\a9.length<=maxLen/\WRs H a9 L311:=by
 unfold L197 at h;obtain ⟨a0,_,rfl,b0,h⟩:=wl_str h;obtain ⟨a1,_,rfl,_,h⟩:=wl_int h;obtain ⟨a2,_,rfl,_,h⟩:=wl_int h;obtain ⟨a3,_,rfl,b3,h⟩:=wl_str h;obtain ⟨a4,_,rfl,b4,c4,h⟩:=wl_sl ty32 h;obtain ⟨a5,_,rfl,_,h⟩:=wl_int h;obtain ⟨a6,_,rfl,_,h⟩:=wl_int h;obtain ⟨a7,_,rfl,b7,h⟩:=wl_str h;obtain ⟨a8,_,rfl,b8,c8,h⟩:=wl_sl ty32 h;obtain ⟨a9,_,rfl,b9,c9,h⟩:=wl_sl ty311 h;obtain rfl:=wl_nil h;exact ⟨a0,a1,a2,a3,a4,a5,a6,a7,a8,a9,rfl,b0,b3,b4,c4,b7,b8,c8,b9,c9⟩
def L200:List CT:=[.str,.int .i64]
theorem ty200:H.ty 200=some ⟨true,L200,[(0,9),(1,3)]⟩:=by kernel_rfl
theorem wl200 {ds:List D} (h:WL H ds L200):∃ a0 a1,ds=[D.str a0,D.int a1]/\a0.size<=maxLen:=by
 unfold L200 at h;obtain ⟨a0,_,rfl,b0,h⟩:=wl_str h;obtain ⟨a1,_,rfl,_,h⟩:=wl_int h;obtain rfl:=wl_nil h;exact ⟨a0,a1,rfl,b0⟩
def L29:List CT:=[.sl 9,.sl 279,.sl 197,.sl 200]
theorem ty29:H.ty 29=some ⟨true,L29,[(0,25),(2,26),(3,27)]⟩:=by kernel_rfl
theorem wl29 {ds:List D} (h:WL H ds L29):∃ a0 a1 a2 a3,ds=[D.sl a0,D.sl a1,D.sl a2,D.sl a3]/\a0.length<=maxLen/\WRs H a0 L9/\a1.length<=maxLen/\WRs H a1 L279/\a2.length<=maxLen/\WRs H a2 L197/\a3.length<=maxLen/\WRs H a3 L200:=by
 unfold L29 at h;obtain ⟨a0,_,rfl,b0,c0,h⟩:=wl_sl ty9 h;obtain ⟨a1,_,rfl,b1,c1,h⟩:=wl_sl ty279 h;obtain ⟨a2,_,rfl,b2,c2,h⟩:=wl_sl ty197 h;obtain ⟨a3,_,rfl,b3,c3,h⟩:=wl_sl ty200 h;obtain rfl:=wl_nil h;exact ⟨a0,a1,a2,a3,rfl,b0,c0,b1,c1,b2,c2,b3,c3⟩
def L25:List CT:=[.sl 9,.sl 279]
theorem wl25 {ds:List D} (h:WL H ds L25):∃ a0 a1,ds=[D.sl a0,D.sl a1]/\a0.length<=maxLen/\WRs H a0 L9/\a1.length<=maxLen/\WRs H a1 L279:=by
 unfold L25 at h;obtain ⟨a0,_,rfl,b0,c0,h⟩:=wl_sl ty9 h;obtain ⟨a1,_,rfl,b1,c1,h⟩:=wl_sl ty279 h;obtain rfl:=wl_nil h;exact ⟨a0,a1,rfl,b0,c0,b1,c1⟩
theorem s226 {ds:List D} (h:WL H ds L279) {b:Int} (hb:Bd b):rn ⟨226,0,0⟩ (ds++[.int b])=some (0,[.int (sub b (szL ds))]):=by
 have h0:=h;obtain ⟨a0,a1,a2,rfl,b0,b1,c1,b2⟩:=wl279 h;show rn ⟨226,0,0⟩ [D.str a0,D.sl a1,D.str a2,.int b]=_
 rw [e226_0_0];rcases sz_case (b:=b) hb b0 with ⟨hh,he⟩ | he
 · simp only [decide_eq_true hh,cond_true,Bool.cond_self]
   exact sub_dead he hb (by simp only [szL,D.sz]; omega)
 simp only [he];have e1:=s76 (b:=(sub b a0.size)) b1 c1 (Bd.sub hb _);skip
 simp only [e1,Option.bind_some,nth,List.getD_cons_zero,List.getD_cons_succ,D.I,D.S,D.L,D.B];rcases sz_case (b:=(sub (sub b a0.size) (D.sz (.sl a1)))) (Bd.sub (Bd.sub hb _) _) b2 with ⟨hh,he⟩ | he
 · simp only [decide_eq_true hh,cond_true,Bool.cond_self]
   rw [sub_sub (Bd.sub hb _)] at he;rw [sub_sub hb] at he;exact sub_dead he hb (by simp only [szL,D.sz]; omega)
 simp only [he];rw [sz_end _ (Bd.sub (Bd.sub (Bd.sub hb _) _) _)];rw [sz_step _ (Bd.sub (Bd.sub hb _) _)];rw [sub_sub (Bd.sub hb _)];rw [sz_step _ (Bd.sub hb _)];rw [sub_sub hb];exact sub_congr (by simp only [szL,D.sz] <;> omega)
theorem s146 {rs:Rows} (hl:rs.length<=maxLen) (hW:WRs H rs L279) {b:Int} (hb:Bd b):rn ⟨146,0,0⟩ [.sl rs,.int b]=some (0,[.int (sub b (D.sz (.sl rs)))]):=by
 show rn ⟨146,0,0⟩ _=_
 rw [e146_0_0];simp only [D.sz];refine sz_pay hb hl (F:=fun c=>(rn ⟨146,0,1⟩ [.sl rs,.int c,.int 0]).bind fun r1=>bif Nat.beq r1.1 0 then some (0,[.int ((nth r1.2 0).I)]) else bif Nat.beq r1.1 1 then some (0,[.int ((nth r1.2 0).I)]) else none) fun c hc h0=>?_
 have:=sz_loop (F:=fun i b=>rn ⟨146,0,1⟩ [.sl rs,.int b,.int (i:Int)]) (rows:=rs) (fun i hi b hb h0=>?_) (fun b hb=>?_) hc h0
 · simp only [Int.natCast_zero] at this
   show ((rn _ _).bind _=_)
   rw [this];split
   · rfl
   · rename_i hh; rw [sub_neg _ (by omega)]; rfl
 · have hw:=WRs_mem hW (List.getElem_mem hi)
   obtain ⟨a0,a1,a2,hr,b0,b1,c1,b2⟩:=wl279 hw;rw [hr] at hw;have hc:=s226 hw hb;rw [<- hr] at hc;generalize hq:szL rs[i]=q at hc ⊢;rw [hr] at hc;simp only [List.cons_append,List.nil_append] at hc;skip
   rw [e146_0_1];simp only [Int.toNat_natCast,rowAt_eq hi,hr,inbN,hi,decide_true,cond_true,Int.ofNat_lt,nth,List.getD_cons_zero,List.getD_cons_succ,D.I,D.S,D.L,D.B,wrap_succ hi hl];rw [hc];simp only [Option.bind_some,nth,List.getD_cons_zero,List.getD_cons_succ,D.I,D.S,D.L,D.B];by_cases hq:0<=sub b q
   · rw [if_pos hq,decide_eq_false (by omega)]; rfl
   · rw [if_neg hq,decide_eq_true (by omega)]; rfl
 · skip
   rw [e146_0_1];simp
theorem s73 {ds:List D} (h:WL H ds L25) {b:Int} (hb:Bd b):rn ⟨73,0,0⟩ (ds++[.int b])=some (0,[.int (sub b (szL ds))]):=by
 have h0:=h;obtain ⟨a0,a1,rfl,b0,c0,b1,c1⟩:=wl25 h;show rn ⟨73,0,0⟩ [D.sl a0,D.sl a1,.int b]=_
 rw [e73_0_0];have e0:=s76 (b:=b) b0 c0 hb;skip
 simp only [e0,Option.bind_some,nth,List.getD_cons_zero,List.getD_cons_succ,D.I,D.S,D.L,D.B];have e1:=s146 (b:=(sub b (D.sz (.sl a0)))) b1 c1 (Bd.sub hb _);skip
 simp only [e1,Option.bind_some,nth,List.getD_cons_zero,List.getD_cons_succ,D.I,D.S,D.L,D.B];rw [sz_end _ (Bd.sub (Bd.sub hb _) _)];rw [sz_step _ (Bd.sub hb _)];rw [sub_sub hb];exact sub_congr (by simp only [szL,D.sz] <;> omega)
theorem s147 {ds:List D} (h:WL H ds L197) {b:Int} (hb:Bd b):rn ⟨147,0,0⟩ (ds++[.int b])=some (0,[.int (sub b (szL ds))]):=by
 have h0:=h;obtain ⟨a0,a1,a2,a3,a4,a5,a6,a7,a8,a9,rfl,b0,b3,b4,c4,b7,b8,c8,b9,c9⟩:=wl197 h;show rn ⟨147,0,0⟩ [D.str a0,D.int a1,D.int a2,D.str a3,D.sl a4,D.int a5,D.int a6,D.str a7,D.sl a8,D.sl a9,.int b]=_
 rw [e147_0_0];rcases sz_case (b:=b) hb b0 with ⟨hh,he⟩ | he
 · simp only [decide_eq_true hh,cond_true,Bool.cond_self]
   exact sub_dead he hb (by simp only [szL,D.sz]; omega)
 simp only [he];have w1:WL H [D.int a1,D.int a2,D.str a3,D.sl a4] L32:=WL.part 1 4 h0;have e1:=s77 _ _ (Nat.lt_succ_self _) w1 (sub b a0.size) (Bd.sub hb _);simp only [List.cons_append,List.nil_append] at e1;skip
 simp only [e1,Option.bind_some,nth,List.getD_cons_zero,List.getD_cons_succ,D.I,D.S,D.L,D.B];have w5:WL H [D.int a5,D.int a6,D.str a7,D.sl a8] L32:=WL.part 5 4 h0;have e5:=s77 _ _ (Nat.lt_succ_self _) w5 (sub (sub b a0.size) (szL [D.int a1,D.int a2,D.str a3,D.sl a4])) (Bd.sub (Bd.sub hb _) _);simp only [List.cons_append,List.nil_append] at e5;skip
 simp only [e5,Option.bind_some,nth,List.getD_cons_zero,List.getD_cons_succ,D.I,D.S,D.L,D.B];have e9:=s200 (b:=(sub (sub (sub b a0.size) (szL [D.int a1,D.int a2,D.str a3,D.sl a4])) (szL [D.int a5,D.int a6,D.str a7,D.sl a8]))) b9 c9 (Bd.sub (Bd.sub (Bd.sub hb _) _) _);skip
 simp only [e9,Option.bind_some,nth,List.getD_cons_zero,List.getD_cons_succ,D.I,D.S,D.L,D.B];rw [sz_end _ (Bd.sub (Bd.sub (Bd.sub (Bd.sub hb _) _) _) _)];rw [sz_step _ (Bd.sub (Bd.sub (Bd.sub hb _) _) _)];rw [sub_sub (Bd.sub (Bd.sub hb _) _)];rw [sz_step _ (Bd.sub (Bd.sub hb _) _)];rw [sub_sub (Bd.sub hb _)];rw [sz_step _ (Bd.sub hb _)];rw [sub_sub hb];exact sub_congr (by simp only [szL,D.sz] <;> omega)
theorem s74 {rs:Rows} (hl:rs.length<=maxLen) (hW:WRs H rs L197) {b:Int} (hb:Bd b):rn ⟨74,0,0⟩ [.sl rs,.int b]=some (0,[.int (sub b (D.sz (.sl rs)))]):=by
 show rn ⟨74,0,0⟩ _=_
 rw [e74_0_0];simp only [D.sz];refine sz_pay hb hl (F:=fun c=>(rn ⟨74,0,1⟩ [.sl rs,.int c,.int 0]).bind fun r1=>bif Nat.beq r1.1 0 then some (0,[.int ((nth r1.2 0).I)]) else bif Nat.beq r1.1 1 then some (0,[.int ((nth r1.2 0).I)]) else none) fun c hc h0=>?_
 have:=sz_loop (F:=fun i b=>rn ⟨74,0,1⟩ [.sl rs,.int b,.int (i:Int)]) (rows:=rs) (fun i hi b hb h0=>?_) (fun b hb=>?_) hc h0
 · simp only [Int.natCast_zero] at this
   show ((rn _ _).bind _=_)
   rw [this];split
   · rfl
   · rename_i hh; rw [sub_neg _ (by omega)]; rfl
 · have hw:=WRs_mem hW (List.getElem_mem hi)
   obtain ⟨a0,a1,a2,a3,a4,a5,a6,a7,a8,a9,hr,b0,b3,b4,c4,b7,b8,c8,b9,c9⟩:=wl197 hw;rw [hr] at hw;have hc:=s147 hw hb;rw [<- hr] at hc;generalize hq:szL rs[i]=q at hc ⊢;rw [hr] at hc;simp only [List.cons_append,List.nil_append] at hc;skip
   rw [e74_0_1];simp only [Int.toNat_natCast,rowAt_eq hi,hr,inbN,hi,decide_true,cond_true,Int.ofNat_lt,nth,List.getD_cons_zero,List.getD_cons_succ,D.I,D.S,D.L,D.B,wrap_succ hi hl];rw [hc];simp only [Option.bind_some,nth,List.getD_cons_zero,List.getD_cons_succ,D.I,D.S,D.L,D.B];by_cases hq:0<=sub b q
   · rw [if_pos hq,decide_eq_false (by omega)]; rfl
   · rw [if_neg hq,decide_eq_true (by omega)]; rfl
 · skip
   rw [e74_0_1];simp
theorem s148 {ds:List D} (h:WL H ds L200) {b:Int} (hb:Bd b):rn ⟨148,0,0⟩ (ds++[.int b])=some (0,[.int (sub b (szL ds))]):=by
 have h0:=h;obtain ⟨a0,a1,rfl,b0⟩:=wl200 h;show rn ⟨148,0,0⟩ [D.str a0,D.int a1,.int b]=_
 rw [e148_0_0];rcases sz_case (b:=b) hb b0 with ⟨hh,he⟩ | he
 · simp only [decide_eq_true hh,cond_true,Bool.cond_self]
   exact sub_dead he hb (by simp only [szL,D.sz]; omega)
 simp only [he];rw [sz_end _ (Bd.sub hb _)];exact sub_congr (by simp only [szL,D.sz] <;> omega)
theorem s75 {rs:Rows} (hl:rs.length<=maxLen) (hW:WRs H rs L200) {b:Int} (hb:Bd b):rn ⟨75,0,0⟩ [.sl rs,.int b]=some (0,[.int (sub b (D.sz (.sl rs)))]):=by
 show rn ⟨75,0,0⟩ _=_
 rw [e75_0_0];simp only [D.sz];refine sz_pay hb hl (F:=fun c=>(rn ⟨75,0,1⟩ [.sl rs,.int c,.int 0]).bind fun r1=>bif Nat.beq r1.1 0 then some (0,[.int ((nth r1.2 0).I)]) else bif Nat.beq r1.1 1 then some (0,[.int ((nth r1.2 0).I)]) else none) fun c hc h0=>?_
 have:=sz_loop (F:=fun i b=>rn ⟨75,0,1⟩ [.sl rs,.int b,.int (i:Int)]) (rows:=rs) (fun i hi b hb h0=>?_) (fun b hb=>?_) hc h0
 · simp only [Int.natCast_zero] at this
   show ((rn _ _).bind _=_)
   rw [this];split
   · rfl
   · rename_i hh; rw [sub_neg _ (by omega)]; rfl
 · have hw:=WRs_mem hW (List.getElem_mem hi)
   obtain ⟨a0,a1,hr,b0⟩:=wl200 hw;rw [hr] at hw;have hc:=s148 hw hb;rw [<- hr] at hc;generalize hq:szL rs[i]=q at hc ⊢;rw [hr] at hc;simp only [List.cons_append,List.nil_append] at hc;skip
   rw [e75_0_1];simp only [Int.toNat_natCast,rowAt_eq hi,hr,inbN,hi,decide_true,cond_true,Int.ofNat_lt,nth,List.getD_cons_zero,List.getD_cons_succ,D.I,D.S,D.L,D.B,wrap_succ hi hl];rw [hc];simp only [Option.bind_some,nth,List.getD_cons_zero,List.getD_cons_succ,D.I,D.S,D.L,D.B];by_cases hq:0<=sub b q
   · rw [if_pos hq,decide_eq_false (by omega)]; rfl
   · rw [if_neg hq,decide_eq_true (by omega)]; rfl
 · skip
   rw [e75_0_1];simp
theorem s14 {ds:List D} (h:WL H ds L29) {b:Int} (hb:Bd b):rn ⟨14,0,0⟩ (ds++[.int b])=some (0,[.int (sub b (szL ds))]):=by
 have h0:=h;obtain ⟨a0,a1,a2,a3,rfl,b0,c0,b1,c1,b2,c2,b3,c3⟩:=wl29 h;show rn ⟨14,0,0⟩ [D.sl a0,D.sl a1,D.sl a2,D.sl a3,.int b]=_
 rw [e14_0_0];have w0:WL H [D.sl a0,D.sl a1] L25:=WL.part 0 2 h0;have e0:=s73 w0 (b:=b) hb;simp only [List.cons_append,List.nil_append] at e0;skip
 simp only [e0,Option.bind_some,nth,List.getD_cons_zero,List.getD_cons_succ,D.I,D.S,D.L,D.B];have e2:=s74 (b:=(sub b (szL [D.sl a0,D.sl a1]))) b2 c2 (Bd.sub hb _);skip
 simp only [e2,Option.bind_some,nth,List.getD_cons_zero,List.getD_cons_succ,D.I,D.S,D.L,D.B];have e3:=s75 (b:=(sub (sub b (szL [D.sl a0,D.sl a1])) (D.sz (.sl a2)))) b3 c3 (Bd.sub (Bd.sub hb _) _);skip
 simp only [e3,Option.bind_some,nth,List.getD_cons_zero,List.getD_cons_succ,D.I,D.S,D.L,D.B];rw [sz_end _ (Bd.sub (Bd.sub (Bd.sub hb _) _) _)];rw [sz_step _ (Bd.sub (Bd.sub hb _) _)];rw [sub_sub (Bd.sub hb _)];rw [sz_step _ (Bd.sub hb _)];rw [sub_sub hb];exact sub_congr (by simp only [szL,D.sz] <;> omega)
theorem c83 {rs:Rows} (hz:rs.length+szR rs<=1048576) (hW:WRs H rs L9):rn ⟨83,0,0⟩ [.sl rs]=some (0,[.sl rs]):=by
 show rn ⟨83,0,0⟩ _=_
 rw [e83_0_0];have hf:=fill_loop (F:=fun i y=>rn ⟨83,0,1⟩ [.sl rs,.int (i:Int),.sl y]) (rows:=rs) (w:=1) (z:=[.str (⟨#[]⟩:ByteArray)]) rfl (fun r hr=>(WRs_mem hW hr).len) (fun i hi y hy hyw=>?_) (fun y=>?_)
 · simp only [Int.natCast_zero] at hf
   rw [decide_eq_true (by omega:(0:Int)<=(rs.length:Int)),decide_eq_true (by unfold M63; omega:(rs.length:Int)<=(M63:Int)),decide_eq_true rfl]
   simp only [Bool.and_self,cond_true,Int.toNat_natCast];rw [hf];rfl
 · have hw:=WRs_mem hW (List.getElem_mem hi)
   have hzi:=szR_mem (List.getElem_mem hi);obtain ⟨a0,hr,b0⟩:=wl9 hw;rw [hr] at hw hzi;skip
   rw [e83_0_1];have hlen:rs.length<=maxLen:=by unfold maxLen; omega
   have hi2:i<y.length:=by omega
   have hov:∀ l:List D,l.length=1->over 0 l (rowAt y i)=l:=fun l hl=>over0_eq (by rw [rowAt_eq hi2,hyw _ (List.getElem_mem hi2),hl])
   simp only [Int.toNat_natCast,rowAt_eq hi,hr,inbN,hi,hi2,decide_true,cond_true,Int.ofNat_lt,nth,List.getD_cons_zero,List.getD_cons_succ,D.I,D.S,D.L,D.B,wrap_succ hi hlen];rw [hov _ rfl]
 · skip
   rw [e83_0_1];simp
theorem c161 {rs:Rows} (hz:rs.length+szR rs<=1048576) (hW:WRs H rs L32) {N:Nat} (hN:∀ r∈rs,SizeOf.sizeOf r<N) (hel:∀ (a0:Int) (a1:Int) (a2:ByteArray) (a3:Rows),SizeOf.sizeOf ([D.int a0,D.int a1,D.str a2,D.sl a3]:List D)<N->szL [D.int a0,D.int a1,D.str a2,D.sl a3]<=1048576->WL H [D.int a0,D.int a1,D.str a2,D.sl a3] L32->rn ⟨84,0,0⟩ [D.int a0,D.int a1,D.str a2,D.sl a3]=some (0,[D.int a0,D.int a1,D.str a2,D.sl a3])):rn ⟨161,0,0⟩ [.sl rs]=some (0,[.sl rs]):=by
 show rn ⟨161,0,0⟩ _=_
 rw [e161_0_0];have hf:=fill_loop (F:=fun i y=>rn ⟨161,0,1⟩ [.sl rs,.int (i:Int),.sl y]) (rows:=rs) (w:=4) (z:=[.int 0,.int 0,.str (⟨#[]⟩:ByteArray),.sl []]) rfl (fun r hr=>(WRs_mem hW hr).len) (fun i hi y hy hyw=>?_) (fun y=>?_)
 · simp only [Int.natCast_zero] at hf
   rw [decide_eq_true (by omega:(0:Int)<=(rs.length:Int)),decide_eq_true (by unfold M63; omega:(rs.length:Int)<=(M63:Int)),decide_eq_true rfl]
   simp only [Bool.and_self,cond_true,Int.toNat_natCast];rw [hf];rfl
 · have hw:=WRs_mem hW (List.getElem_mem hi)
   have hzi:=szR_mem (List.getElem_mem hi);obtain ⟨a0,a1,a2,a3,hr,b2,b3,c3⟩:=wl32 hw;have hNi:=hN _ (List.getElem_mem hi);rw [hr] at hw hzi hNi;have hc:=hel a0 a1 a2 a3 hNi (by omega) hw
   skip
   skip
   rw [e161_0_1];have hlen:rs.length<=maxLen:=by unfold maxLen; omega
   have hi2:i<y.length:=by omega
   have hov:∀ l:List D,l.length=4->over 0 l (rowAt y i)=l:=fun l hl=>over0_eq (by rw [rowAt_eq hi2,hyw _ (List.getElem_mem hi2),hl])
   simp only [Int.toNat_natCast,rowAt_eq hi,hr,inbN,hi,hi2,decide_true,cond_true,Int.ofNat_lt,nth,List.getD_cons_zero,List.getD_cons_succ,D.I,D.S,D.L,D.B,wrap_succ hi hlen];simp only [hc,Option.bind_some,nth,List.getD_cons_zero,List.getD_cons_succ,D.I,D.S,D.L,D.B];rw [hov _ rfl]
 · skip
   rw [e161_0_1];simp
theorem c84:∀ (N:Nat) (a0:Int) (a1:Int) (a2:ByteArray) (a3:Rows),SizeOf.sizeOf ([D.int a0,D.int a1,D.str a2,D.sl a3]:List D)<N->szL [D.int a0,D.int a1,D.str a2,D.sl a3]<=1048576->WL H [D.int a0,D.int a1,D.str a2,D.sl a3] L32->rn ⟨84,0,0⟩ [D.int a0,D.int a1,D.str a2,D.sl a3]=some (0,[D.int a0,D.int a1,D.str a2,D.sl a3])
 | 0,a0,a1,a2,a3,hN,_,_=>absurd hN (Nat.not_lt_zero _)
 | N+1,a0,a1,a2,a3,hN,hz,h=>by
  obtain ⟨x0,x1,x2,x3,hh,bx2,bx3,cx3⟩:=wl32 h;simp only [List.cons.injEq,D.int.injEq,D.bool.injEq,D.str.injEq,D.sl.injEq,and_true] at hh;obtain ⟨rfl,rfl,rfl,rfl⟩:=hh;show rn ⟨84,0,0⟩ _=_
  rw [e84_0_0];simp only [szL,D.sz] at hz;have e3:rn ⟨161,0,0⟩ [.sl a3]=some (0,[.sl a3]):=c161 (by omega) cx3 (N:=N) (fun r hr=>by have h1:=size_row hr; simp only [List.cons.sizeOf_spec,D.sl.sizeOf_spec] at hN; omega) (c84 N)
  skip
  all_goals simp only [e3,Option.bind_some,nth,List.getD_cons_zero,List.getD_cons_succ,D.I,D.S,D.L,D.B]
theorem c285 {a0:Int} {a1:Int} {a2:Int} {a3:ByteArray} {a4:Rows} {a5:Int} {a6:Int} {a7:ByteArray} {a8:Rows} (hz:szL [D.int a0,D.int a1,D.int a2,D.str a3,D.sl a4,D.int a5,D.int a6,D.str a7,D.sl a8]<=1048576) (h:WL H [D.int a0,D.int a1,D.int a2,D.str a3,D.sl a4,D.int a5,D.int a6,D.str a7,D.sl a8] L311):rn ⟨285,0,0⟩ [D.int a0,D.int a1,D.int a2,D.str a3,D.sl a4,D.int a5,D.int a6,D.str a7,D.sl a8]=some (0,[D.int a0,D.int a1,D.int a2,D.str a3,D.int a5,D.int a6,D.str a7,D.sl a4,D.sl a8]):=by
 obtain ⟨x0,x1,x2,x3,x4,x5,x6,x7,x8,hh,bx3,bx4,cx4,bx7,bx8,cx8⟩:=wl311 h;simp only [List.cons.injEq,D.int.injEq,D.bool.injEq,D.str.injEq,D.sl.injEq,and_true] at hh;obtain ⟨rfl,rfl,rfl,rfl,rfl,rfl,rfl,rfl,rfl⟩:=hh;show rn ⟨285,0,0⟩ _=_
 rw [e285_0_0];simp only [szL,D.sz] at hz;have w1:WL H [D.int a1,D.int a2,D.str a3,D.sl a4] L32:=WL.part 1 4 h;have e1:=c84 _ a1 a2 a3 a4 (Nat.lt_succ_self _) (by simp only [szL,D.sz]; omega) w1
 skip
 have w5:WL H [D.int a5,D.int a6,D.str a7,D.sl a8] L32:=WL.part 5 4 h;have e5:=c84 _ a5 a6 a7 a8 (Nat.lt_succ_self _) (by simp only [szL,D.sz]; omega) w5
 skip
 all_goals simp only [e1,e5,Option.bind_some,nth,List.getD_cons_zero,List.getD_cons_succ,D.I,D.S,D.L,D.B]
theorem c206 {rs:Rows} (hz:rs.length+szR rs<=1048576) (hW:WRs H rs L311):rn ⟨206,0,0⟩ [.sl rs]=some (0,[.sl rs]):=by
 show rn ⟨206,0,0⟩ _=_
 rw [e206_0_0];have hf:=fill_loop (F:=fun i y=>rn ⟨206,0,1⟩ [.sl rs,.int (i:Int),.sl y]) (rows:=rs) (w:=9) (z:=[.int 0,.int 0,.int 0,.str (⟨#[]⟩:ByteArray),.sl [],.int 0,.int 0,.str (⟨#[]⟩:ByteArray),.sl []]) rfl (fun r hr=>(WRs_mem hW hr).len) (fun i hi y hy hyw=>?_) (fun y=>?_)
 · simp only [Int.natCast_zero] at hf
   rw [decide_eq_true (by omega:(0:Int)<=(rs.length:Int)),decide_eq_true (by unfold M63; omega:(rs.length:Int)<=(M63:Int)),decide_eq_true rfl]
   simp only [Bool.and_self,cond_true,Int.toNat_natCast];rw [hf];rfl
 · have hw:=WRs_mem hW (List.getElem_mem hi)
   have hzi:=szR_mem (List.getElem_mem hi);obtain ⟨a0,a1,a2,a3,a4,a5,a6,a7,a8,hr,b3,b4,c4,b7,b8,c8⟩:=wl311 hw;rw [hr] at hw hzi;have hc:=c285 (by omega) hw
   skip
   skip
   rw [e206_0_1];have hlen:rs.length<=maxLen:=by unfold maxLen; omega
   have hi2:i<y.length:=by omega
   have hov:∀ l:List D,l.length=9->over 0 l (rowAt y i)=l:=fun l hl=>over0_eq (by rw [rowAt_eq hi2,hyw _ (List.getElem_mem hi2),hl])
   simp only [Int.toNat_natCast,rowAt_eq hi,hr,inbN,hi,hi2,decide_true,cond_true,Int.ofNat_lt,nth,List.getD_cons_zero,List.getD_cons_succ,D.I,D.S,D.L,D.B,wrap_succ hi hlen];simp only [hc,Option.bind_some,nth,List.getD_cons_zero,List.getD_cons_succ,D.I,D.S,D.L,D.B];rw [hov _ rfl]
 · skip
   rw [e206_0_1];simp
theorem c127 {a0:Rows} {a1:Int} {a2:Int} {a3:ByteArray} {a4:Rows} {a5:Int} {a6:Int} {a7:ByteArray} {a8:Rows} {a9:Rows} (hz:szL [D.sl a0,D.int a1,D.int a2,D.str a3,D.sl a4,D.int a5,D.int a6,D.str a7,D.sl a8,D.sl a9]<=1048576) (h:WL H [D.sl a0,D.int a1,D.int a2,D.str a3,D.sl a4,D.int a5,D.int a6,D.str a7,D.sl a8,D.sl a9] L170):rn ⟨127,0,0⟩ [D.sl a0,D.int a1,D.int a2,D.str a3,D.sl a4,D.int a5,D.int a6,D.str a7,D.sl a8,D.sl a9]=some (0,[D.int a1,D.int a2,D.str a3,D.int a5,D.int a6,D.str a7,D.sl a0,D.sl a4,D.sl a8,D.sl a9]):=by
 obtain ⟨x0,x1,x2,x3,x4,x5,x6,x7,x8,x9,hh,bx0,cx0,bx3,bx4,cx4,bx7,bx8,cx8,bx9,cx9⟩:=wl170 h;simp only [List.cons.injEq,D.int.injEq,D.bool.injEq,D.str.injEq,D.sl.injEq,and_true] at hh;obtain ⟨rfl,rfl,rfl,rfl,rfl,rfl,rfl,rfl,rfl,rfl⟩:=hh;show rn ⟨127,0,0⟩ _=_
 rw [e127_0_0];simp only [szL,D.sz] at hz;have e0:=c83 (rs:=a0) (by omega) cx0
 skip
 have w1:WL H [D.int a1,D.int a2,D.str a3,D.sl a4] L32:=WL.part 1 4 h;have e1:=c84 _ a1 a2 a3 a4 (Nat.lt_succ_self _) (by simp only [szL,D.sz]; omega) w1
 skip
 have w5:WL H [D.int a5,D.int a6,D.str a7,D.sl a8] L32:=WL.part 5 4 h;have e5:=c84 _ a5 a6 a7 a8 (Nat.lt_succ_self _) (by simp only [szL,D.sz]; omega) w5
 skip
 have e9:=c206 (rs:=a9) (by omega) cx9
 skip
 all_goals simp only [e0,e1,e5,e9,Option.bind_some,nth,List.getD_cons_zero,List.getD_cons_succ,D.I,D.S,D.L,D.B]
theorem c45 {rs:Rows} (hz:rs.length+szR rs<=1048576) (hW:WRs H rs L170):rn ⟨45,0,0⟩ [.sl rs]=some (0,[.sl rs]):=by
 show rn ⟨45,0,0⟩ _=_
 rw [e45_0_0];have hf:=fill_loop (F:=fun i y=>rn ⟨45,0,1⟩ [.sl rs,.int (i:Int),.sl y]) (rows:=rs) (w:=10) (z:=[.sl [],.int 0,.int 0,.str (⟨#[]⟩:ByteArray),.sl [],.int 0,.int 0,.str (⟨#[]⟩:ByteArray),.sl [],.sl []]) rfl (fun r hr=>(WRs_mem hW hr).len) (fun i hi y hy hyw=>?_) (fun y=>?_)
 · simp only [Int.natCast_zero] at hf
   rw [decide_eq_true (by omega:(0:Int)<=(rs.length:Int)),decide_eq_true (by unfold M63; omega:(rs.length:Int)<=(M63:Int)),decide_eq_true rfl]
   simp only [Bool.and_self,cond_true,Int.toNat_natCast];rw [hf];rfl
 · have hw:=WRs_mem hW (List.getElem_mem hi)
   have hzi:=szR_mem (List.getElem_mem hi);obtain ⟨a0,a1,a2,a3,a4,a5,a6,a7,a8,a9,hr,b0,c0,b3,b4,c4,b7,b8,c8,b9,c9⟩:=wl170 hw;rw [hr] at hw hzi;have hc:=c127 (by omega) hw
   skip
   skip
   rw [e45_0_1];have hlen:rs.length<=maxLen:=by unfold maxLen; omega
   have hi2:i<y.length:=by omega
   have hov:∀ l:List D,l.length=10->over 0 l (rowAt y i)=l:=fun l hl=>over0_eq (by rw [rowAt_eq hi2,hyw _ (List.getElem_mem hi2),hl])
   simp only [Int.toNat_natCast,rowAt_eq hi,hr,inbN,hi,hi2,decide_true,cond_true,Int.ofNat_lt,nth,List.getD_cons_zero,List.getD_cons_succ,D.I,D.S,D.L,D.B,wrap_succ hi hlen];simp only [hc,Option.bind_some,nth,List.getD_cons_zero,List.getD_cons_succ,D.I,D.S,D.L,D.B];rw [hov _ rfl]
 · skip
   rw [e45_0_1];simp
theorem c240 {a0:ByteArray} {a1:Rows} {a2:ByteArray} (hz:szL [D.str a0,D.sl a1,D.str a2]<=1048576) (h:WL H [D.str a0,D.sl a1,D.str a2] L279):rn ⟨240,0,0⟩ [D.str a0,D.sl a1,D.str a2]=some (0,[D.str a0,D.str a2,D.sl a1]):=by
 obtain ⟨x0,x1,x2,hh,bx0,bx1,cx1,bx2⟩:=wl279 h;simp only [List.cons.injEq,D.int.injEq,D.bool.injEq,D.str.injEq,D.sl.injEq,and_true] at hh;obtain ⟨rfl,rfl,rfl⟩:=hh;show rn ⟨240,0,0⟩ _=_
 rw [e240_0_0];simp only [szL,D.sz] at hz;have e1:=c83 (rs:=a1) (by omega) cx1
 skip
 all_goals simp only [e1,Option.bind_some,nth,List.getD_cons_zero,List.getD_cons_succ,D.I,D.S,D.L,D.B]
theorem c158 {rs:Rows} (hz:rs.length+szR rs<=1048576) (hW:WRs H rs L279):rn ⟨158,0,0⟩ [.sl rs]=some (0,[.sl rs]):=by
 show rn ⟨158,0,0⟩ _=_
 rw [e158_0_0];have hf:=fill_loop (F:=fun i y=>rn ⟨158,0,1⟩ [.sl rs,.int (i:Int),.sl y]) (rows:=rs) (w:=3) (z:=[.str (⟨#[]⟩:ByteArray),.sl [],.str (⟨#[]⟩:ByteArray)]) rfl (fun r hr=>(WRs_mem hW hr).len) (fun i hi y hy hyw=>?_) (fun y=>?_)
 · simp only [Int.natCast_zero] at hf
   rw [decide_eq_true (by omega:(0:Int)<=(rs.length:Int)),decide_eq_true (by unfold M63; omega:(rs.length:Int)<=(M63:Int)),decide_eq_true rfl]
   simp only [Bool.and_self,cond_true,Int.toNat_natCast];rw [hf];rfl
 · have hw:=WRs_mem hW (List.getElem_mem hi)
   have hzi:=szR_mem (List.getElem_mem hi);obtain ⟨a0,a1,a2,hr,b0,b1,c1,b2⟩:=wl279 hw;rw [hr] at hw hzi;have hc:=c240 (by omega) hw
   skip
   skip
   rw [e158_0_1];have hlen:rs.length<=maxLen:=by unfold maxLen; omega
   have hi2:i<y.length:=by omega
   have hov:∀ l:List D,l.length=3->over 0 l (rowAt y i)=l:=fun l hl=>over0_eq (by rw [rowAt_eq hi2,hyw _ (List.getElem_mem hi2),hl])
   simp only [Int.toNat_natCast,rowAt_eq hi,hr,inbN,hi,hi2,decide_true,cond_true,Int.ofNat_lt,nth,List.getD_cons_zero,List.getD_cons_succ,D.I,D.S,D.L,D.B,wrap_succ hi hlen];simp only [hc,Option.bind_some,nth,List.getD_cons_zero,List.getD_cons_succ,D.I,D.S,D.L,D.B];rw [hov _ rfl]
 · skip
   rw [e158_0_1];simp
theorem c80 {a0:Rows} {a1:Rows} (hz:szL [D.sl a0,D.sl a1]<=1048576) (h:WL H [D.sl a0,D.sl a1] L25):rn ⟨80,0,0⟩ [D.sl a0,D.sl a1]=some (0,[D.sl a0,D.sl a1]):=by
 obtain ⟨x0,x1,hh,bx0,cx0,bx1,cx1⟩:=wl25 h;simp only [List.cons.injEq,D.int.injEq,D.bool.injEq,D.str.injEq,D.sl.injEq,and_true] at hh;obtain ⟨rfl,rfl⟩:=hh;show rn ⟨80,0,0⟩ _=_
 rw [e80_0_0];simp only [szL,D.sz] at hz;have e0:=c83 (rs:=a0) (by omega) cx0
 skip
 have e1:=c158 (rs:=a1) (by omega) cx1
 skip
 all_goals simp only [e0,e1,Option.bind_some,nth,List.getD_cons_zero,List.getD_cons_succ,D.I,D.S,D.L,D.B]
theorem c159 {a0:ByteArray} {a1:Int} {a2:Int} {a3:ByteArray} {a4:Rows} {a5:Int} {a6:Int} {a7:ByteArray} {a8:Rows} {a9:Rows} (hz:szL [D.str a0,D.int a1,D.int a2,D.str a3,D.sl a4,D.int a5,D.int a6,D.str a7,D.sl a8,D.sl a9]<=1048576) (h:WL H [D.str a0,D.int a1,D.int a2,D.str a3,D.sl a4,D.int a5,D.int a6,D.str a7,D.sl a8,D.sl a9] L197):rn ⟨159,0,0⟩ [D.str a0,D.int a1,D.int a2,D.str a3,D.sl a4,D.int a5,D.int a6,D.str a7,D.sl a8,D.sl a9]=some (0,[D.str a0,D.int a1,D.int a2,D.str a3,D.int a5,D.int a6,D.str a7,D.sl a4,D.sl a8,D.sl a9]):=by
 obtain ⟨x0,x1,x2,x3,x4,x5,x6,x7,x8,x9,hh,bx0,bx3,bx4,cx4,bx7,bx8,cx8,bx9,cx9⟩:=wl197 h;simp only [List.cons.injEq,D.int.injEq,D.bool.injEq,D.str.injEq,D.sl.injEq,and_true] at hh;obtain ⟨rfl,rfl,rfl,rfl,rfl,rfl,rfl,rfl,rfl,rfl⟩:=hh;show rn ⟨159,0,0⟩ _=_
 rw [e159_0_0];simp only [szL,D.sz] at hz;have w1:WL H [D.int a1,D.int a2,D.str a3,D.sl a4] L32:=WL.part 1 4 h;have e1:=c84 _ a1 a2 a3 a4 (Nat.lt_succ_self _) (by simp only [szL,D.sz]; omega) w1
 skip
 have w5:WL H [D.int a5,D.int a6,D.str a7,D.sl a8] L32:=WL.part 5 4 h;have e5:=c84 _ a5 a6 a7 a8 (Nat.lt_succ_self _) (by simp only [szL,D.sz]; omega) w5
 skip
 have e9:=c206 (rs:=a9) (by omega) cx9
 skip
 all_goals simp only [e1,e5,e9,Option.bind_some,nth,List.getD_cons_zero,List.getD_cons_succ,D.I,D.S,D.L,D.B]
theorem c81 {rs:Rows} (hz:rs.length+szR rs<=1048576) (hW:WRs H rs L197):rn ⟨81,0,0⟩ [.sl rs]=some (0,[.sl rs]):=by
 show rn ⟨81,0,0⟩ _=_
 rw [e81_0_0];have hf:=fill_loop (F:=fun i y=>rn ⟨81,0,1⟩ [.sl rs,.int (i:Int),.sl y]) (rows:=rs) (w:=10) (z:=[.str (⟨#[]⟩:ByteArray),.int 0,.int 0,.str (⟨#[]⟩:ByteArray),.sl [],.int 0,.int 0,.str (⟨#[]⟩:ByteArray),.sl [],.sl []]) rfl (fun r hr=>(WRs_mem hW hr).len) (fun i hi y hy hyw=>?_) (fun y=>?_)
 · simp only [Int.natCast_zero] at hf
   rw [decide_eq_true (by omega:(0:Int)<=(rs.length:Int)),decide_eq_true (by unfold M63; omega:(rs.length:Int)<=(M63:Int)),decide_eq_true rfl]
   simp only [Bool.and_self,cond_true,Int.toNat_natCast];rw [hf];rfl
 · have hw:=WRs_mem hW (List.getElem_mem hi)
   have hzi:=szR_mem (List.getElem_mem hi);obtain ⟨a0,a1,a2,a3,a4,a5,a6,a7,a8,a9,hr,b0,b3,b4,c4,b7,b8,c8,b9,c9⟩:=wl197 hw;rw [hr] at hw hzi;have hc:=c159 (by omega) hw
   skip
   skip
   rw [e81_0_1];have hlen:rs.length<=maxLen:=by unfold maxLen; omega
   have hi2:i<y.length:=by omega
   have hov:∀ l:List D,l.length=10->over 0 l (rowAt y i)=l:=fun l hl=>over0_eq (by rw [rowAt_eq hi2,hyw _ (List.getElem_mem hi2),hl])
   simp only [Int.toNat_natCast,rowAt_eq hi,hr,inbN,hi,hi2,decide_true,cond_true,Int.ofNat_lt,nth,List.getD_cons_zero,List.getD_cons_succ,D.I,D.S,D.L,D.B,wrap_succ hi hlen];simp only [hc,Option.bind_some,nth,List.getD_cons_zero,List.getD_cons_succ,D.I,D.S,D.L,D.B];rw [hov _ rfl]
 · skip
   rw [e81_0_1];simp
theorem c160 {a0:ByteArray} {a1:Int} (hz:szL [D.str a0,D.int a1]<=1048576) (h:WL H [D.str a0,D.int a1] L200):rn ⟨160,0,0⟩ [D.str a0,D.int a1]=some (0,[D.str a0,D.int a1]):=by
 obtain ⟨x0,x1,hh,bx0⟩:=wl200 h;simp only [List.cons.injEq,D.int.injEq,D.bool.injEq,D.str.injEq,D.sl.injEq,and_true] at hh;obtain ⟨rfl,rfl⟩:=hh;show rn ⟨160,0,0⟩ _=_
 rw [e160_0_0];all_goals simp only [Option.bind_some,nth,List.getD_cons_zero,List.getD_cons_succ,D.I,D.S,D.L,D.B]
theorem c82 {rs:Rows} (hz:rs.length+szR rs<=1048576) (hW:WRs H rs L200):rn ⟨82,0,0⟩ [.sl rs]=some (0,[.sl rs]):=by
 show rn ⟨82,0,0⟩ _=_
 rw [e82_0_0];have hf:=fill_loop (F:=fun i y=>rn ⟨82,0,1⟩ [.sl rs,.int (i:Int),.sl y]) (rows:=rs) (w:=2) (z:=[.str (⟨#[]⟩:ByteArray),.int 0]) rfl (fun r hr=>(WRs_mem hW hr).len) (fun i hi y hy hyw=>?_) (fun y=>?_)
 · simp only [Int.natCast_zero] at hf
   rw [decide_eq_true (by omega:(0:Int)<=(rs.length:Int)),decide_eq_true (by unfold M63; omega:(rs.length:Int)<=(M63:Int)),decide_eq_true rfl]
   simp only [Bool.and_self,cond_true,Int.toNat_natCast];rw [hf];rfl
 · have hw:=WRs_mem hW (List.getElem_mem hi)
   have hzi:=szR_mem (List.getElem_mem hi);obtain ⟨a0,a1,hr,b0⟩:=wl200 hw;rw [hr] at hw hzi;have hc:=c160 (by omega) hw
   skip
   skip
   rw [e82_0_1];have hlen:rs.length<=maxLen:=by unfold maxLen; omega
   have hi2:i<y.length:=by omega
   have hov:∀ l:List D,l.length=2->over 0 l (rowAt y i)=l:=fun l hl=>over0_eq (by rw [rowAt_eq hi2,hyw _ (List.getElem_mem hi2),hl])
   simp only [Int.toNat_natCast,rowAt_eq hi,hr,inbN,hi,hi2,decide_true,cond_true,Int.ofNat_lt,nth,List.getD_cons_zero,List.getD_cons_succ,D.I,D.S,D.L,D.B,wrap_succ hi hlen];simp only [hc,Option.bind_some,nth,List.getD_cons_zero,List.getD_cons_succ,D.I,D.S,D.L,D.B];rw [hov _ rfl]
 · skip
   rw [e82_0_1];simp
theorem c17 {a0:Rows} {a1:Rows} {a2:Rows} {a3:Rows} (hz:szL [D.sl a0,D.sl a1,D.sl a2,D.sl a3]<=1048576) (h:WL H [D.sl a0,D.sl a1,D.sl a2,D.sl a3] L29):rn ⟨17,0,0⟩ [D.sl a0,D.sl a1,D.sl a2,D.sl a3]=some (0,[D.sl a0,D.sl a1,D.sl a2,D.sl a3]):=by
 obtain ⟨x0,x1,x2,x3,hh,bx0,cx0,bx1,cx1,bx2,cx2,bx3,cx3⟩:=wl29 h;simp only [List.cons.injEq,D.int.injEq,D.bool.injEq,D.str.injEq,D.sl.injEq,and_true] at hh;obtain ⟨rfl,rfl,rfl,rfl⟩:=hh;show rn ⟨17,0,0⟩ _=_
 rw [e17_0_0];simp only [szL,D.sz] at hz;have w0:WL H [D.sl a0,D.sl a1] L25:=WL.part 0 2 h;have e0:=c80 (by simp only [szL,D.sz]; omega) w0
 skip
 have e2:=c81 (rs:=a2) (by omega) cx2
 skip
 have e3:=c82 (rs:=a3) (by omega) cx3
 skip
 all_goals simp only [e0,e2,e3,Option.bind_some,nth,List.getD_cons_zero,List.getD_cons_succ,D.I,D.S,D.L,D.B]
end Go.Q.S
