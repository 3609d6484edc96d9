/- The functions of this seat, as that machine runs them, part 1. -/
import Derived.Test.YtnjedojmdcpcaaaGreatQC
import Derived.Test.YtnjedojmdcpcaaaGreatssX2
import Derived.Test.YtnjedojmdcpcaaaGreatMA
set_option linter.unusedVariables false
set_option linter.unusedSimpArgs false
open Bool renaming and_eq_true->C1,not_true->D9,true_and->F5,and_true->J8,not_false->N1,and_self->N8,and_assoc->P7,false_eq_true->S0,cond_self->T4
open Int renaming toNat_natCast->B9,ofNat_lt->C3,natCast_zero->C4,tdiv_eq_ediv_of_nonneg->O8,toNat->P8
open List renaming length_map->B6,getD_cons_zero->B7,getD_cons_succ->B8,getElem_mem->C0,drop_eq_getElem_cons->C2,map_cons->C7,length_cons->C8,drop_length->C9,nil_append->D0,drop_zero->D1,cons_append->D4,length_nil->D6,map_nil->E0,append_assoc->E1,map_append->E6,getElem?_eq_getElem->E7,length_append->F2,length_eq_zero_iff->F4,append_nil->J4,cons->J5,sum_cons->J9,all_cons->K0,all_nil->N2,getD->O1,drop_eq_nil_of_le->O2,map_map->O5,drop_succ_cons->O9,find?_cons->P1,getElem_map->Q4,getElem_cons_zero->R9,range'->S3,find?_nil->S4,pairwise_iff_getElem->S7,take_zero->T2,findIdx?_nil->T5
open Nat renaming lt_irrefl->D5,beq_refl->D7,beq->E3,zero_add->E8,ble_eq_true_of_le->E9,lt_succ_self->F9,ble->G9,le_trans->J6,zero_le->K4,not_lt_zero->P9
open Option renaming bind_some->B5,some->D3,map_some->K7
section
namespace Go.Q.S
open Go Go.Q Go.Proofs
def L9:List CT:=[.str]
theorem ty9:H.ty 9=some ⟨false,L9,[]⟩:=by kernel_rfl
theorem wl9 {ds:List D} (h:WL H ds L9):∃ a0,ds=[D.str a0]/\a0.size<=maxLen:=by
 unfold L9 at h;obtain ⟨a0,_,rfl,b0,h⟩:=wl_str h;obtain rfl:=wl_nil h;exact ⟨a0,rfl,b0⟩
def L286:List CT:=[.str,.sl 9,.str]
theorem ty286:H.ty 286=some ⟨true,L286,[(0,9),(1,22),(2,9)]⟩:=by kernel_rfl
theorem wl286 {ds:List D} (h:WL H ds L286):∃ a0 a1 a2,ds=[D.str a0,D.sl a1,D.str a2]/\a0.size<=maxLen/\a1.length<=maxLen/\WRs H a1 L9/\a2.size<=maxLen:=by
 unfold L286 at h;obtain ⟨a0,_,rfl,b0,h⟩:=wl_str h;obtain ⟨a1,_,rfl,b1,c1,h⟩:=wl_sl ty9 h;obtain ⟨a2,_,rfl,b2,h⟩:=wl_str h;obtain rfl:=wl_nil h;exact ⟨a0,a1,a2,rfl,b0,b1,c1,b2⟩
def L49:List CT:=[.int .i64,.int .i64,.str,.sl 49]
theorem ty49:H.ty 49=some ⟨true,L49,[(0,3),(1,3),(2,9),(3,47)]⟩:=by kernel_rfl
theorem wl49 {ds:List D} (h:WL H ds L49):∃ a0 a1 a2 a3,ds=[D.int a0,D.int a1,D.str a2,D.sl a3]/\a2.size<=maxLen/\a3.length<=maxLen/\WRs H a3 L49:=by
 unfold L49 at h;obtain ⟨a0,_,rfl,_,h⟩:=wl_int h;obtain ⟨a1,_,rfl,_,h⟩:=wl_int h;obtain ⟨a2,_,rfl,b2,h⟩:=wl_str h;obtain ⟨a3,_,rfl,b3,c3,h⟩:=wl_sl ty49 h;obtain rfl:=wl_nil h;exact ⟨a0,a1,a2,a3,rfl,b2,b3,c3⟩
def L275:List CT:=[.int .i64,.int .i64,.int .i64,.str,.sl 49,.int .i64,.int .i64,.str,.sl 49]
theorem ty275:H.ty 275=some ⟨true,L275,[(0,3),(1,49),(5,49)]⟩:=by kernel_rfl
theorem wl275 {ds:List D} (h:WL H ds L275):∃ a0 a1 a2 a3 a4 a5 a6 a7 a8,ds=[D.int a0,D.int a1,D.int a2,D.str a3,D.sl a4,D.int a5,D.int a6,D.str a7,D.sl a8]/\a3.size<=maxLen/\a4.length<=maxLen/\WRs H a4 L49/\a7.size<=maxLen/\a8.length<=maxLen/\WRs H a8 L49:=by
 unfold L275 at h;obtain ⟨a0,_,rfl,_,h⟩:=wl_int h;obtain ⟨a1,_,rfl,_,h⟩:=wl_int h;obtain ⟨a2,_,rfl,_,h⟩:=wl_int h;obtain ⟨a3,_,rfl,b3,h⟩:=wl_str h;obtain ⟨a4,_,rfl,b4,c4,h⟩:=wl_sl ty49 h;obtain ⟨a5,_,rfl,_,h⟩:=wl_int h;obtain ⟨a6,_,rfl,_,h⟩:=wl_int h;obtain ⟨a7,_,rfl,b7,h⟩:=wl_str h;obtain ⟨a8,_,rfl,b8,c8,h⟩:=wl_sl ty49 h;obtain rfl:=wl_nil h;exact ⟨a0,a1,a2,a3,a4,a5,a6,a7,a8,rfl,b3,b4,c4,b7,b8,c8⟩
def L213:List CT:=[.str,.int .i64,.int .i64,.str,.sl 49,.int .i64,.int .i64,.str,.sl 49,.sl 275]
theorem ty213:H.ty 213=some ⟨true,L213,[(0,9),(1,49),(5,49),(9,175)]⟩:=by kernel_rfl
theorem wl213 {ds:List D} (h:WL H ds L213):∃ a0 a1 a2 a3 a4 a5 a6 a7 a8 a9,ds=[D.str a0,D.int a1,D.int a2,D.str a3,D.sl a4,D.int a5,D.int a6,D.str a7,D.sl a8,D.sl a9]/\a0.size<=maxLen/\a3.size<=maxLen/\a4.length<=maxLen/\WRs H a4 L49/\a7.size<=maxLen/\a8.length<=maxLen/\WRs H a8 L49/\a9.length<=maxLen/\WRs H a9 L275:=by
 unfold L213 at h;obtain ⟨a0,_,rfl,b0,h⟩:=wl_str h;obtain ⟨a1,_,rfl,_,h⟩:=wl_int h;obtain ⟨a2,_,rfl,_,h⟩:=wl_int h;obtain ⟨a3,_,rfl,b3,h⟩:=wl_str h;obtain ⟨a4,_,rfl,b4,c4,h⟩:=wl_sl ty49 h;obtain ⟨a5,_,rfl,_,h⟩:=wl_int h;obtain ⟨a6,_,rfl,_,h⟩:=wl_int h;obtain ⟨a7,_,rfl,b7,h⟩:=wl_str h;obtain ⟨a8,_,rfl,b8,c8,h⟩:=wl_sl ty49 h;obtain ⟨a9,_,rfl,b9,c9,h⟩:=wl_sl ty275 h;obtain rfl:=wl_nil h;exact ⟨a0,a1,a2,a3,a4,a5,a6,a7,a8,a9,rfl,b0,b3,b4,c4,b7,b8,c8,b9,c9⟩
def L215:List CT:=[.str,.int .i64]
theorem ty215:H.ty 215=some ⟨true,L215,[(0,9),(1,3)]⟩:=by kernel_rfl
theorem wl215 {ds:List D} (h:WL H ds L215):∃ a0 a1,ds=[D.str a0,D.int a1]/\a0.size<=maxLen:=by
 unfold L215 at h;obtain ⟨a0,_,rfl,b0,h⟩:=wl_str h;obtain ⟨a1,_,rfl,_,h⟩:=wl_int h;obtain rfl:=wl_nil h;exact ⟨a0,a1,rfl,b0⟩
def L45:List CT:=[.sl 9,.sl 286,.sl 213,.sl 215]
theorem wl45 {ds:List D} (h:WL H ds L45):∃ a0 a1 a2 a3,ds=[D.sl a0,D.sl a1,D.sl a2,D.sl a3]/\a0.length<=maxLen/\WRs H a0 L9/\a1.length<=maxLen/\WRs H a1 L286/\a2.length<=maxLen/\WRs H a2 L213/\a3.length<=maxLen/\WRs H a3 L215:=by
 unfold L45 at h;obtain ⟨a0,_,rfl,b0,c0,h⟩:=wl_sl ty9 h;obtain ⟨a1,_,rfl,b1,c1,h⟩:=wl_sl ty286 h;obtain ⟨a2,_,rfl,b2,c2,h⟩:=wl_sl ty213 h;obtain ⟨a3,_,rfl,b3,c3,h⟩:=wl_sl ty215 h;obtain rfl:=wl_nil h;exact ⟨a0,a1,a2,a3,rfl,b0,c0,b1,c1,b2,c2,b3,c3⟩
def L41:List CT:=[.sl 9,.sl 286]
theorem wl41 {ds:List D} (h:WL H ds L41):∃ a0 a1,ds=[D.sl a0,D.sl a1]/\a0.length<=maxLen/\WRs H a0 L9/\a1.length<=maxLen/\WRs H a1 L286:=by
 unfold L41 at h;obtain ⟨a0,_,rfl,b0,c0,h⟩:=wl_sl ty9 h;obtain ⟨a1,_,rfl,b1,c1,h⟩:=wl_sl ty286 h;obtain rfl:=wl_nil h;exact ⟨a0,a1,rfl,b0,c0,b1,c1⟩
theorem q91 {rs rs':Rows} (hl:rs.length<=maxLen) (hl':rs'.length<=maxLen) (hW:WRs H rs L9) (hW':WRs H rs' L9):rn ⟨91,0,0⟩ [.sl rs,.sl rs']=some (0,[.bool (eqb rs rs')]):=by
 show rn ⟨91,0,0⟩ _=_
 rw [e91_0_0];by_cases hll:rs'.length=rs.length
 · have hf:=eq_loop (F:=fun i=>rn ⟨91,0,1⟩ [.sl rs,.sl rs',.int (i:Int)]) (A:=some (0,[])) (B:=some (1,[])) hll (fun i hi=>?_) ?_
   · simp only [C4] at hf
     rw [H7 (by omega:(rs.length:Int)=(rs'.length:Int))]
     simp only [D9,H2];rw [hf];cases eqb rs rs' <;> rfl
   · have hi2:i<rs'.length:=by omega
     have hw:=WRs_mem hW (C0 hi);have hw':=WRs_mem hW' (C0 hi2);obtain ⟨a0,hr,b0⟩:=wl9 hw;obtain ⟨y0,hr',by0⟩:=wl9 hw';skip
     rw [e91_0_1];simp only [B9,rowAt_eq hi,rowAt_eq hi2,hr,hr',inbN,hi,hi2,H3,H1,C3,nth,B7,B8,D.I,D.S,D.L,D.B,wrap_succ hi hl];simp only [eqb_cons,eqb_nil,eqb_int,eqb_str,eqb_bool,eqb_sl,J8];cases (decide (a0=y0)) <;> rfl
   · skip
     rw [e91_0_1];simp
 · rw [H8 (by omega:¬(rs.length:Int)=(rs'.length:Int)),eqb_len (fun h=>hll h.symm)]
   rfl
theorem q263 {ds es:List D} (h:WL H ds L286) (h':WL H es L286):rn ⟨263,0,0⟩ (ds++es)=some (0,[.bool (eqb ds es)]):=by
 have h0:=h;have h0':=h';obtain ⟨a0,a1,a2,rfl,b0,b1,c1,b2⟩:=wl286 h;obtain ⟨y0,y1,y2,rfl,by0,by1,cy1,by2⟩:=wl286 h';show rn ⟨263,0,0⟩ [D.str a0,D.sl a1,D.str a2,D.str y0,D.sl y1,D.str y2]=_
 rw [e263_0_0];have e1:=q91 b1 by1 c1 cy1;skip
 simp only [e1,B5,nth,B7,B8,D.I,D.S,D.L,D.B];simp only [eq_step,eq_end,eqb_cons,eqb_nil,eqb_int,eqb_str,eqb_bool,eqb_sl,J8,P7]
theorem q176 {rs rs':Rows} (hl:rs.length<=maxLen) (hl':rs'.length<=maxLen) (hW:WRs H rs L286) (hW':WRs H rs' L286):rn ⟨176,0,0⟩ [.sl rs,.sl rs']=some (0,[.bool (eqb rs rs')]):=by
 show rn ⟨176,0,0⟩ _=_
 rw [e176_0_0];by_cases hll:rs'.length=rs.length
 · have hf:=eq_loop (F:=fun i=>rn ⟨176,0,1⟩ [.sl rs,.sl rs',.int (i:Int)]) (A:=some (0,[])) (B:=some (1,[])) hll (fun i hi=>?_) ?_
   · simp only [C4] at hf
     rw [H7 (by omega:(rs.length:Int)=(rs'.length:Int))]
     simp only [D9,H2];rw [hf];cases eqb rs rs' <;> rfl
   · have hi2:i<rs'.length:=by omega
     have hw:=WRs_mem hW (C0 hi);have hw':=WRs_mem hW' (C0 hi2);obtain ⟨a0,a1,a2,hr,b0,b1,c1,b2⟩:=wl286 hw;obtain ⟨y0,y1,y2,hr',by0,by1,cy1,by2⟩:=wl286 hw';have hc:=q263 hw hw';rw [hr,hr'] at hc;simp only [D4,D0] at hc;skip
     skip
     rw [e176_0_1];simp only [B9,rowAt_eq hi,rowAt_eq hi2,hr,hr',inbN,hi,hi2,H3,H1,C3,nth,B7,B8,D.I,D.S,D.L,D.B,wrap_succ hi hl];simp only [hc,B5,nth,B7,B8,D.I,D.S,D.L,D.B];cases (eqb [D.str a0,D.sl a1,D.str a2] [D.str y0,D.sl y1,D.str y2]) <;> rfl
   · skip
     rw [e176_0_1];simp
 · rw [H8 (by omega:¬(rs.length:Int)=(rs'.length:Int)),eqb_len (fun h=>hll h.symm)]
   rfl
theorem q88 {ds es:List D} (h:WL H ds L41) (h':WL H es L41):rn ⟨88,0,0⟩ (ds++es)=some (0,[.bool (eqb ds es)]):=by
 have h0:=h;have h0':=h';obtain ⟨a0,a1,rfl,b0,c0,b1,c1⟩:=wl41 h;obtain ⟨y0,y1,rfl,by0,cy0,by1,cy1⟩:=wl41 h';show rn ⟨88,0,0⟩ [D.sl a0,D.sl a1,D.sl y0,D.sl y1]=_
 rw [e88_0_0];have e0:=q91 b0 by0 c0 cy0;skip
 have e1:=q176 b1 by1 c1 cy1;skip
 simp only [e0,e1,B5,nth,B7,B8,D.I,D.S,D.L,D.B];simp only [eq_step,eq_end,eqb_cons,eqb_nil,eqb_int,eqb_str,eqb_bool,eqb_sl,J8,P7]
theorem q179 {rs rs':Rows} (hl:rs.length<=maxLen) (hl':rs'.length<=maxLen) (hW:WRs H rs L49) (hW':WRs H rs' L49) (hel:∀ r r',r∈rs->r'∈rs'->rn ⟨92,0,0⟩ (r++r')=some (0,[.bool (eqb r r')])):rn ⟨179,0,0⟩ [.sl rs,.sl rs']=some (0,[.bool (eqb rs rs')]):=by
 show rn ⟨179,0,0⟩ _=_
 rw [e179_0_0];by_cases hll:rs'.length=rs.length
 · have hf:=eq_loop (F:=fun i=>rn ⟨179,0,1⟩ [.sl rs,.sl rs',.int (i:Int)]) (A:=some (0,[])) (B:=some (1,[])) hll (fun i hi=>?_) ?_
   · simp only [C4] at hf
     rw [H7 (by omega:(rs.length:Int)=(rs'.length:Int))]
     simp only [D9,H2];rw [hf];cases eqb rs rs' <;> rfl
   · have hi2:i<rs'.length:=by omega
     have hw:=WRs_mem hW (C0 hi);have hw':=WRs_mem hW' (C0 hi2);obtain ⟨a0,a1,a2,a3,hr,b2,b3,c3⟩:=wl49 hw;obtain ⟨y0,y1,y2,y3,hr',by2,by3,cy3⟩:=wl49 hw';have hc:=hel _ _ (C0 hi) (C0 hi2);rw [hr,hr'] at hc;simp only [D4,D0] at hc;skip
     skip
     rw [e179_0_1];simp only [B9,rowAt_eq hi,rowAt_eq hi2,hr,hr',inbN,hi,hi2,H3,H1,C3,nth,B7,B8,D.I,D.S,D.L,D.B,wrap_succ hi hl];simp only [hc,B5,nth,B7,B8,D.I,D.S,D.L,D.B];cases (eqb [D.int a0,D.int a1,D.str a2,D.sl a3] [D.int y0,D.int y1,D.str y2,D.sl y3]) <;> rfl
   · skip
     rw [e179_0_1];simp
 · rw [H8 (by omega:¬(rs.length:Int)=(rs'.length:Int)),eqb_len (fun h=>hll h.symm)]
   rfl
theorem q92:∀ (N:Nat) (ds es:List D),SizeOf.sizeOf ds<N->WL H ds L49->WL H es L49->rn ⟨92,0,0⟩ (ds++es)=some (0,[.bool (eqb ds es)])
 | 0,ds,es,hN,_,_=>absurd hN (P9 _)
 | N+1,ds,es,hN,h,h'=>by
  have h0:=h;have h0':=h';obtain ⟨a0,a1,a2,a3,rfl,b2,b3,c3⟩:=wl49 h;obtain ⟨y0,y1,y2,y3,rfl,by2,by3,cy3⟩:=wl49 h';show rn ⟨92,0,0⟩ [D.int a0,D.int a1,D.str a2,D.sl a3,D.int y0,D.int y1,D.str y2,D.sl y3]=_
  rw [e92_0_0];have e3:=q179 b3 by3 c3 cy3 (fun r r' hr hr'=>q92 N r r' (by have h1:=size_row hr; simp only [J5.sizeOf_spec,D.sl.sizeOf_spec] at hN; omega) (WRs_mem c3 hr) (WRs_mem cy3 hr'))
  skip
  simp only [e3,B5,nth,B7,B8,D.I,D.S,D.L,D.B];simp only [eq_step,eq_end,eqb_cons,eqb_nil,eqb_int,eqb_str,eqb_bool,eqb_sl,J8,P7]
theorem q292 {ds es:List D} (h:WL H ds L275) (h':WL H es L275):rn ⟨292,0,0⟩ (ds++es)=some (0,[.bool (eqb ds es)]):=by
 have h0:=h;have h0':=h';obtain ⟨a0,a1,a2,a3,a4,a5,a6,a7,a8,rfl,b3,b4,c4,b7,b8,c8⟩:=wl275 h;obtain ⟨y0,y1,y2,y3,y4,y5,y6,y7,y8,rfl,by3,by4,cy4,by7,by8,cy8⟩:=wl275 h';show rn ⟨292,0,0⟩ [D.int a0,D.int a1,D.int a2,D.str a3,D.sl a4,D.int a5,D.int a6,D.str a7,D.sl a8,D.int y0,D.int y1,D.int y2,D.str y3,D.sl y4,D.int y5,D.int y6,D.str y7,D.sl y8]=_
 rw [e292_0_0];have w1:WL H [D.int a1,D.int a2,D.str a3,D.sl a4] L49:=WL.part 1 4 h0;have w1p:WL H [D.int y1,D.int y2,D.str y3,D.sl y4] L49:=WL.part 1 4 h0';have e1:=q92 _ _ _ (F9 _) w1 w1p;simp only [D4,D0] at e1;skip
 have w5:WL H [D.int a5,D.int a6,D.str a7,D.sl a8] L49:=WL.part 5 4 h0;have w5p:WL H [D.int y5,D.int y6,D.str y7,D.sl y8] L49:=WL.part 5 4 h0';have e5:=q92 _ _ _ (F9 _) w5 w5p;simp only [D4,D0] at e5;skip
 simp only [e1,e5,B5,nth,B7,B8,D.I,D.S,D.L,D.B];simp only [eq_step,eq_end,eqb_cons,eqb_nil,eqb_int,eqb_str,eqb_bool,eqb_sl,J8,P7]
theorem q214 {rs rs':Rows} (hl:rs.length<=maxLen) (hl':rs'.length<=maxLen) (hW:WRs H rs L275) (hW':WRs H rs' L275):rn ⟨214,0,0⟩ [.sl rs,.sl rs']=some (0,[.bool (eqb rs rs')]):=by
 show rn ⟨214,0,0⟩ _=_
 rw [e214_0_0];by_cases hll:rs'.length=rs.length
 · have hf:=eq_loop (F:=fun i=>rn ⟨214,0,1⟩ [.sl rs,.sl rs',.int (i:Int)]) (A:=some (0,[])) (B:=some (1,[])) hll (fun i hi=>?_) ?_
   · simp only [C4] at hf
     rw [H7 (by omega:(rs.length:Int)=(rs'.length:Int))]
     simp only [D9,H2];rw [hf];cases eqb rs rs' <;> rfl
   · have hi2:i<rs'.length:=by omega
     have hw:=WRs_mem hW (C0 hi);have hw':=WRs_mem hW' (C0 hi2);obtain ⟨a0,a1,a2,a3,a4,a5,a6,a7,a8,hr,b3,b4,c4,b7,b8,c8⟩:=wl275 hw;obtain ⟨y0,y1,y2,y3,y4,y5,y6,y7,y8,hr',by3,by4,cy4,by7,by8,cy8⟩:=wl275 hw';have hc:=q292 hw hw';rw [hr,hr'] at hc;simp only [D4,D0] at hc;skip
     skip
     rw [e214_0_1];simp only [B9,rowAt_eq hi,rowAt_eq hi2,hr,hr',inbN,hi,hi2,H3,H1,C3,nth,B7,B8,D.I,D.S,D.L,D.B,wrap_succ hi hl];simp only [hc,B5,nth,B7,B8,D.I,D.S,D.L,D.B];cases (eqb [D.int a0,D.int a1,D.int a2,D.str a3,D.sl a4,D.int a5,D.int a6,D.str a7,D.sl a8] [D.int y0,D.int y1,D.int y2,D.str y3,D.sl y4,D.int y5,D.int y6,D.str y7,D.sl y8]) <;> rfl
   · skip
     rw [e214_0_1];simp
 · rw [H8 (by omega:¬(rs.length:Int)=(rs'.length:Int)),eqb_len (fun h=>hll h.symm)]
   rfl
theorem q177 {ds es:List D} (h:WL H ds L213) (h':WL H es L213):rn ⟨177,0,0⟩ (ds++es)=some (0,[.bool (eqb ds es)]):=by
 have h0:=h;have h0':=h';obtain ⟨a0,a1,a2,a3,a4,a5,a6,a7,a8,a9,rfl,b0,b3,b4,c4,b7,b8,c8,b9,c9⟩:=wl213 h;obtain ⟨y0,y1,y2,y3,y4,y5,y6,y7,y8,y9,rfl,by0,by3,by4,cy4,by7,by8,cy8,by9,cy9⟩:=wl213 h';show rn ⟨177,0,0⟩ [D.str a0,D.int a1,D.int a2,D.str a3,D.sl a4,D.int a5,D.int a6,D.str a7,D.sl a8,D.sl a9,D.str y0,D.int y1,D.int y2,D.str y3,D.sl y4,D.int y5,D.int y6,D.str y7,D.sl y8,D.sl y9]=_
 rw [e177_0_0];have w1:WL H [D.int a1,D.int a2,D.str a3,D.sl a4] L49:=WL.part 1 4 h0;have w1p:WL H [D.int y1,D.int y2,D.str y3,D.sl y4] L49:=WL.part 1 4 h0';have e1:=q92 _ _ _ (F9 _) w1 w1p;simp only [D4,D0] at e1;skip
 have w5:WL H [D.int a5,D.int a6,D.str a7,D.sl a8] L49:=WL.part 5 4 h0;have w5p:WL H [D.int y5,D.int y6,D.str y7,D.sl y8] L49:=WL.part 5 4 h0';have e5:=q92 _ _ _ (F9 _) w5 w5p;simp only [D4,D0] at e5;skip
 have e9:=q214 b9 by9 c9 cy9;skip
 simp only [e1,e5,e9,B5,nth,B7,B8,D.I,D.S,D.L,D.B];simp only [eq_step,eq_end,eqb_cons,eqb_nil,eqb_int,eqb_str,eqb_bool,eqb_sl,J8,P7]
theorem q89 {rs rs':Rows} (hl:rs.length<=maxLen) (hl':rs'.length<=maxLen) (hW:WRs H rs L213) (hW':WRs H rs' L213):rn ⟨89,0,0⟩ [.sl rs,.sl rs']=some (0,[.bool (eqb rs rs')]):=by
 show rn ⟨89,0,0⟩ _=_
 rw [e89_0_0];by_cases hll:rs'.length=rs.length
 · have hf:=eq_loop (F:=fun i=>rn ⟨89,0,1⟩ [.sl rs,.sl rs',.int (i:Int)]) (A:=some (0,[])) (B:=some (1,[])) hll (fun i hi=>?_) ?_
   · simp only [C4] at hf
     rw [H7 (by omega:(rs.length:Int)=(rs'.length:Int))]
     simp only [D9,H2];rw [hf];cases eqb rs rs' <;> rfl
   · have hi2:i<rs'.length:=by omega
     have hw:=WRs_mem hW (C0 hi);have hw':=WRs_mem hW' (C0 hi2);obtain ⟨a0,a1,a2,a3,a4,a5,a6,a7,a8,a9,hr,b0,b3,b4,c4,b7,b8,c8,b9,c9⟩:=wl213 hw;obtain ⟨y0,y1,y2,y3,y4,y5,y6,y7,y8,y9,hr',by0,by3,by4,cy4,by7,by8,cy8,by9,cy9⟩:=wl213 hw';have hc:=q177 hw hw';rw [hr,hr'] at hc;simp only [D4,D0] at hc;skip
     skip
     rw [e89_0_1];simp only [B9,rowAt_eq hi,rowAt_eq hi2,hr,hr',inbN,hi,hi2,H3,H1,C3,nth,B7,B8,D.I,D.S,D.L,D.B,wrap_succ hi hl];simp only [hc,B5,nth,B7,B8,D.I,D.S,D.L,D.B];cases (eqb [D.str a0,D.int a1,D.int a2,D.str a3,D.sl a4,D.int a5,D.int a6,D.str a7,D.sl a8,D.sl a9] [D.str y0,D.int y1,D.int y2,D.str y3,D.sl y4,D.int y5,D.int y6,D.str y7,D.sl y8,D.sl y9]) <;> rfl
   · skip
     rw [e89_0_1];simp
 · rw [H8 (by omega:¬(rs.length:Int)=(rs'.length:Int)),eqb_len (fun h=>hll h.symm)]
   rfl
theorem q178 {ds es:List D} (h:WL H ds L215) (h':WL H es L215):rn ⟨178,0,0⟩ (ds++es)=some (0,[.bool (eqb ds es)]):=by
 have h0:=h;have h0':=h';obtain ⟨a0,a1,rfl,b0⟩:=wl215 h;obtain ⟨y0,y1,rfl,by0⟩:=wl215 h';show rn ⟨178,0,0⟩ [D.str a0,D.int a1,D.str y0,D.int y1]=_
 rw [e178_0_0];simp only [eq_step,eq_end,eqb_cons,eqb_nil,eqb_int,eqb_str,eqb_bool,eqb_sl,J8,P7]
theorem q90 {rs rs':Rows} (hl:rs.length<=maxLen) (hl':rs'.length<=maxLen) (hW:WRs H rs L215) (hW':WRs H rs' L215):rn ⟨90,0,0⟩ [.sl rs,.sl rs']=some (0,[.bool (eqb rs rs')]):=by
 show rn ⟨90,0,0⟩ _=_
 rw [e90_0_0];by_cases hll:rs'.length=rs.length
 · have hf:=eq_loop (F:=fun i=>rn ⟨90,0,1⟩ [.sl rs,.sl rs',.int (i:Int)]) (A:=some (0,[])) (B:=some (1,[])) hll (fun i hi=>?_) ?_
   · simp only [C4] at hf
     rw [H7 (by omega:(rs.length:Int)=(rs'.length:Int))]
     simp only [D9,H2];rw [hf];cases eqb rs rs' <;> rfl
   · have hi2:i<rs'.length:=by omega
     have hw:=WRs_mem hW (C0 hi);have hw':=WRs_mem hW' (C0 hi2);obtain ⟨a0,a1,hr,b0⟩:=wl215 hw;obtain ⟨y0,y1,hr',by0⟩:=wl215 hw';have hc:=q178 hw hw';rw [hr,hr'] at hc;simp only [D4,D0] at hc;skip
     skip
     rw [e90_0_1];simp only [B9,rowAt_eq hi,rowAt_eq hi2,hr,hr',inbN,hi,hi2,H3,H1,C3,nth,B7,B8,D.I,D.S,D.L,D.B,wrap_succ hi hl];simp only [hc,B5,nth,B7,B8,D.I,D.S,D.L,D.B];cases (eqb [D.str a0,D.int a1] [D.str y0,D.int y1]) <;> rfl
   · skip
     rw [e90_0_1];simp
 · rw [H8 (by omega:¬(rs.length:Int)=(rs'.length:Int)),eqb_len (fun h=>hll h.symm)]
   rfl
theorem q20 {ds es:List D} (h:WL H ds L45) (h':WL H es L45):rn ⟨20,0,0⟩ (ds++es)=some (0,[.bool (eqb ds es)]):=by
 have h0:=h;have h0':=h';obtain ⟨a0,a1,a2,a3,rfl,b0,c0,b1,c1,b2,c2,b3,c3⟩:=wl45 h;obtain ⟨y0,y1,y2,y3,rfl,by0,cy0,by1,cy1,by2,cy2,by3,cy3⟩:=wl45 h';show rn ⟨20,0,0⟩ [D.sl a0,D.sl a1,D.sl a2,D.sl a3,D.sl y0,D.sl y1,D.sl y2,D.sl y3]=_
 rw [e20_0_0];have w0:WL H [D.sl a0,D.sl a1] L41:=WL.part 0 2 h0;have w0p:WL H [D.sl y0,D.sl y1] L41:=WL.part 0 2 h0';have e0:=q88 w0 w0p;simp only [D4,D0] at e0;skip
 have e2:=q89 b2 by2 c2 cy2;skip
 have e3:=q90 b3 by3 c3 cy3;skip
 simp only [e0,e2,e3,B5,nth,B7,B8,D.I,D.S,D.L,D.B];simp only [eq_step,eq_end,eqb_cons,eqb_nil,eqb_int,eqb_str,eqb_bool,eqb_sl,J8,P7]
def L3:List CT:=[.int .i64]
theorem ty3:H.ty 3=some ⟨false,L3,[]⟩:=by kernel_rfl
theorem wl3 {ds:List D} (h:WL H ds L3):∃ a0,ds=[D.int a0]:=by
 unfold L3 at h;obtain ⟨a0,_,rfl,_,h⟩:=wl_int h;obtain rfl:=wl_nil h;exact ⟨a0,rfl⟩
theorem q93 {rs rs':Rows} (hl:rs.length<=maxLen) (hl':rs'.length<=maxLen) (hW:WRs H rs L3) (hW':WRs H rs' L3):rn ⟨93,0,0⟩ [.sl rs,.sl rs']=some (0,[.bool (eqb rs rs')]):=by
 show rn ⟨93,0,0⟩ _=_
 rw [e93_0_0];by_cases hll:rs'.length=rs.length
 · have hf:=eq_loop (F:=fun i=>rn ⟨93,0,1⟩ [.sl rs,.sl rs',.int (i:Int)]) (A:=some (0,[])) (B:=some (1,[])) hll (fun i hi=>?_) ?_
   · simp only [C4] at hf
     rw [H7 (by omega:(rs.length:Int)=(rs'.length:Int))]
     simp only [D9,H2];rw [hf];cases eqb rs rs' <;> rfl
   · have hi2:i<rs'.length:=by omega
     have hw:=WRs_mem hW (C0 hi);have hw':=WRs_mem hW' (C0 hi2);obtain ⟨a0,hr⟩:=wl3 hw;obtain ⟨y0,hr'⟩:=wl3 hw';skip
     rw [e93_0_1];simp only [B9,rowAt_eq hi,rowAt_eq hi2,hr,hr',inbN,hi,hi2,H3,H1,C3,nth,B7,B8,D.I,D.S,D.L,D.B,wrap_succ hi hl];simp only [eqb_cons,eqb_nil,eqb_int,eqb_str,eqb_bool,eqb_sl,J8];cases (decide (a0=y0)) <;> rfl
   · skip
     rw [e93_0_1];simp
 · rw [H8 (by omega:¬(rs.length:Int)=(rs'.length:Int)),eqb_len (fun h=>hll h.symm)]
   rfl
def L51:List CT:=[.sl 9,.int .i64,.int .i64,.str,.sl 49,.sl 3]
theorem wl51 {ds:List D} (h:WL H ds L51):∃ a0 a1 a2 a3 a4 a5,ds=[D.sl a0,D.int a1,D.int a2,D.str a3,D.sl a4,D.sl a5]/\a0.length<=maxLen/\WRs H a0 L9/\a3.size<=maxLen/\a4.length<=maxLen/\WRs H a4 L49/\a5.length<=maxLen/\WRs H a5 L3:=by
 unfold L51 at h;obtain ⟨a0,_,rfl,b0,c0,h⟩:=wl_sl ty9 h;obtain ⟨a1,_,rfl,_,h⟩:=wl_int h;obtain ⟨a2,_,rfl,_,h⟩:=wl_int h;obtain ⟨a3,_,rfl,b3,h⟩:=wl_str h;obtain ⟨a4,_,rfl,b4,c4,h⟩:=wl_sl ty49 h;obtain ⟨a5,_,rfl,b5,c5,h⟩:=wl_sl ty3 h;obtain rfl:=wl_nil h;exact ⟨a0,a1,a2,a3,a4,a5,rfl,b0,c0,b3,b4,c4,b5,c5⟩
theorem q21 {ds es:List D} (h:WL H ds L51) (h':WL H es L51):rn ⟨21,0,0⟩ (ds++es)=some (0,[.bool (eqb ds es)]):=by
 have h0:=h;have h0':=h';obtain ⟨a0,a1,a2,a3,a4,a5,rfl,b0,c0,b3,b4,c4,b5,c5⟩:=wl51 h;obtain ⟨y0,y1,y2,y3,y4,y5,rfl,by0,cy0,by3,by4,cy4,by5,cy5⟩:=wl51 h';show rn ⟨21,0,0⟩ [D.sl a0,D.int a1,D.int a2,D.str a3,D.sl a4,D.sl a5,D.sl y0,D.int y1,D.int y2,D.str y3,D.sl y4,D.sl y5]=_
 rw [e21_0_0];have e0:=q91 b0 by0 c0 cy0;skip
 have w1:WL H [D.int a1,D.int a2,D.str a3,D.sl a4] L49:=WL.part 1 4 h0;have w1p:WL H [D.int y1,D.int y2,D.str y3,D.sl y4] L49:=WL.part 1 4 h0';have e1:=q92 _ _ _ (F9 _) w1 w1p;simp only [D4,D0] at e1;skip
 have e5:=q93 b5 by5 c5 cy5;skip
 simp only [e0,e1,e5,B5,nth,B7,B8,D.I,D.S,D.L,D.B];simp only [eq_step,eq_end,eqb_cons,eqb_nil,eqb_int,eqb_str,eqb_bool,eqb_sl,J8,P7]
def L279:List CT:=[.str,.sl 9,.str]
theorem ty279:H.ty 279=some ⟨true,L279,[(0,9),(1,22),(2,9)]⟩:=by kernel_rfl
theorem wl279 {ds:List D} (h:WL H ds L279):∃ a0 a1 a2,ds=[D.str a0,D.sl a1,D.str a2]/\a0.size<=maxLen/\a1.length<=maxLen/\WRs H a1 L9/\a2.size<=maxLen:=by
 unfold L279 at h;obtain ⟨a0,_,rfl,b0,h⟩:=wl_str h;obtain ⟨a1,_,rfl,b1,c1,h⟩:=wl_sl ty9 h;obtain ⟨a2,_,rfl,b2,h⟩:=wl_str h;obtain rfl:=wl_nil h;exact ⟨a0,a1,a2,rfl,b0,b1,c1,b2⟩
def L32:List CT:=[.int .i64,.int .i64,.str,.sl 32]
theorem ty32:H.ty 32=some ⟨true,L32,[(0,3),(1,3),(2,9),(3,30)]⟩:=by kernel_rfl
theorem wl32 {ds:List D} (h:WL H ds L32):∃ a0 a1 a2 a3,ds=[D.int a0,D.int a1,D.str a2,D.sl a3]/\a2.size<=maxLen/\a3.length<=maxLen/\WRs H a3 L32:=by
 unfold L32 at h;obtain ⟨a0,_,rfl,_,h⟩:=wl_int h;obtain ⟨a1,_,rfl,_,h⟩:=wl_int h;obtain ⟨a2,_,rfl,b2,h⟩:=wl_str h;obtain ⟨a3,_,rfl,b3,c3,h⟩:=wl_sl ty32 h;obtain rfl:=wl_nil h;exact ⟨a0,a1,a2,a3,rfl,b2,b3,c3⟩
def L311:List CT:=[.int .i64,.int .i64,.int .i64,.str,.sl 32,.int .i64,.int .i64,.str,.sl 32]
theorem ty311:H.ty 311=some ⟨true,L311,[(0,3),(1,32),(5,32)]⟩:=by kernel_rfl
theorem wl311 {ds:List D} (h:WL H ds L311):∃ a0 a1 a2 a3 a4 a5 a6 a7 a8,ds=[D.int a0,D.int a1,D.int a2,D.str a3,D.sl a4,D.int a5,D.int a6,D.str a7,D.sl a8]/\a3.size<=maxLen/\a4.length<=maxLen/\WRs H a4 L32/\a7.size<=maxLen/\a8.length<=maxLen/\WRs H a8 L32:=by
 unfold L311 at h;obtain ⟨a0,_,rfl,_,h⟩:=wl_int h;obtain ⟨a1,_,rfl,_,h⟩:=wl_int h;obtain ⟨a2,_,rfl,_,h⟩:=wl_int h;obtain ⟨a3,_,rfl,b3,h⟩:=wl_str h;obtain ⟨a4,_,rfl,b4,c4,h⟩:=wl_sl ty32 h;obtain ⟨a5,_,rfl,_,h⟩:=wl_int h;obtain ⟨a6,_,rfl,_,h⟩:=wl_int h;obtain ⟨a7,_,rfl,b7,h⟩:=wl_str h;obtain ⟨a8,_,rfl,b8,c8,h⟩:=wl_sl ty32 h;obtain rfl:=wl_nil h;exact ⟨a0,a1,a2,a3,a4,a5,a6,a7,a8,rfl,b3,b4,c4,b7,b8,c8⟩
def L197:List CT:=[.str,.int .i64,.int .i64,.str,.sl 32,.int .i64,.int .i64,.str,.sl 32,.sl 311]
theorem ty197:H.ty 197=some ⟨true,L197,[(0,9),(1,32),(5,32),(9,168)]⟩:=by kernel_rfl
theorem wl197 {ds:List D} (h:WL H ds L197):∃ a0 a1 a2 a3 a4 a5 a6 a7 a8 a9,ds=[D.str a0,D.int a1,D.int a2,D.str a3,D.sl a4,D.int a5,D.int a6,D.str a7,D.sl a8,D.sl a9]/\a0.size<=maxLen/\a3.size<=maxLen/\a4.length<=maxLen/\WRs H a4 L32/\a7.size<=maxLen/\a8.length<=maxLen/\WRs H a8 L32/\a9.length<=maxLen/\WRs H a9 L311:=by
 unfold L197 at h;obtain ⟨a0,_,rfl,b0,h⟩:=wl_str h;obtain ⟨a1,_,rfl,_,h⟩:=wl_int h;obtain ⟨a2,_,rfl,_,h⟩:=wl_int h;obtain ⟨a3,_,rfl,b3,h⟩:=wl_str h;obtain ⟨a4,_,rfl,b4,c4,h⟩:=wl_sl ty32 h;obtain ⟨a5,_,rfl,_,h⟩:=wl_int h;obtain ⟨a6,_,rfl,_,h⟩:=wl_int h;obtain ⟨a7,_,rfl,b7,h⟩:=wl_str h;obtain ⟨a8,_,rfl,b8,c8,h⟩:=wl_sl ty32 h;obtain ⟨a9,_,rfl,b9,c9,h⟩:=wl_sl ty311 h;obtain rfl:=wl_nil h;exact ⟨a0,a1,a2,a3,a4,a5,a6,a7,a8,a9,rfl,b0,b3,b4,c4,b7,b8,c8,b9,c9⟩
def L200:List CT:=[.str,.int .i64]
theorem ty200:H.ty 200=some ⟨true,L200,[(0,9),(1,3)]⟩:=by kernel_rfl
theorem wl200 {ds:List D} (h:WL H ds L200):∃ a0 a1,ds=[D.str a0,D.int a1]/\a0.size<=maxLen:=by
 unfold L200 at h;obtain ⟨a0,_,rfl,b0,h⟩:=wl_str h;obtain ⟨a1,_,rfl,_,h⟩:=wl_int h;obtain rfl:=wl_nil h;exact ⟨a0,a1,rfl,b0⟩
def L29:List CT:=[.sl 9,.sl 279,.sl 197,.sl 200]
theorem ty29:H.ty 29=some ⟨true,L29,[(0,25),(2,26),(3,27)]⟩:=by kernel_rfl
theorem wl29 {ds:List D} (h:WL H ds L29):∃ a0 a1 a2 a3,ds=[D.sl a0,D.sl a1,D.sl a2,D.sl a3]/\a0.length<=maxLen/\WRs H a0 L9/\a1.length<=maxLen/\WRs H a1 L279/\a2.length<=maxLen/\WRs H a2 L197/\a3.length<=maxLen/\WRs H a3 L200:=by
 unfold L29 at h;obtain ⟨a0,_,rfl,b0,c0,h⟩:=wl_sl ty9 h;obtain ⟨a1,_,rfl,b1,c1,h⟩:=wl_sl ty279 h;obtain ⟨a2,_,rfl,b2,c2,h⟩:=wl_sl ty197 h;obtain ⟨a3,_,rfl,b3,c3,h⟩:=wl_sl ty200 h;obtain rfl:=wl_nil h;exact ⟨a0,a1,a2,a3,rfl,b0,c0,b1,c1,b2,c2,b3,c3⟩
def L25:List CT:=[.sl 9,.sl 279]
theorem wl25 {ds:List D} (h:WL H ds L25):∃ a0 a1,ds=[D.sl a0,D.sl a1]/\a0.length<=maxLen/\WRs H a0 L9/\a1.length<=maxLen/\WRs H a1 L279:=by
 unfold L25 at h;obtain ⟨a0,_,rfl,b0,c0,h⟩:=wl_sl ty9 h;obtain ⟨a1,_,rfl,b1,c1,h⟩:=wl_sl ty279 h;obtain rfl:=wl_nil h;exact ⟨a0,a1,rfl,b0,c0,b1,c1⟩
theorem s76 {rs:Rows} (hl:rs.length<=maxLen) (hW:WRs H rs L9) {b:Int} (hb:Bd b):rn ⟨76,0,0⟩ [.sl rs,.int b]=some (0,[.int (sub b (D.sz (.sl rs)))]):=by
 show rn ⟨76,0,0⟩ _=_
 rw [e76_0_0];simp only [D.sz];refine sz_pay hb hl (F:=fun c=>(rn ⟨76,0,1⟩ [.sl rs,.int c,.int 0]).bind fun r1=>bif E3 r1.1 0 then some (0,[.int ((nth r1.2 0).I)]) else bif E3 r1.1 1 then some (0,[.int ((nth r1.2 0).I)]) else none) fun c hc h0=>?_
 have:=sz_loop (F:=fun i b=>rn ⟨76,0,1⟩ [.sl rs,.int b,.int (i:Int)]) (rows:=rs) (fun i hi b hb h0=>?_) (fun b hb=>?_) hc h0
 · simp only [C4] at this
   show ((rn _ _).bind _=_)
   rw [this];split
   · rfl
   · rename_i hh; rw [sub_neg _ (by omega)]; rfl
 · have hw:=WRs_mem hW (C0 hi)
   obtain ⟨a0,hr,b0⟩:=wl9 hw;rw [hr] at hw;have hz:szL [.str a0]=a0.size:=by simp only [szL,D.sz]; rfl
   have hq:szL rs[i]=a0.size:=by rw [hr]; simp only [szL,D.sz]; omega
   rw [hq];skip
   rw [e76_0_1];simp only [B9,rowAt_eq hi,hr,inbN,hi,H3,H1,C3,nth,B7,B8,D.I,D.S,D.L,D.B,wrap_succ hi hl];rcases sz_case hb b0 with ⟨hh,he⟩ | he
   · rw [H7 hh,H6 (by rw [he]; decide)]; rfl
   · rw [he]
     by_cases hq:0<=sub b a0.size
     · rw [H5 hq,H8 (by omega)]; rfl
     · rw [H6 hq,H7 (by omega)]; rfl
 · skip
   rw [e76_0_1];simp
theorem s226 {ds:List D} (h:WL H ds L279) {b:Int} (hb:Bd b):rn ⟨226,0,0⟩ (ds++[.int b])=some (0,[.int (sub b (szL ds))]):=by
 have h0:=h;obtain ⟨a0,a1,a2,rfl,b0,b1,c1,b2⟩:=wl279 h;show rn ⟨226,0,0⟩ [D.str a0,D.sl a1,D.str a2,.int b]=_
 rw [e226_0_0];rcases sz_case (b:=b) hb b0 with ⟨hh,he⟩ | he
 · simp only [H7 hh,H1,T4]
   exact sub_dead he hb (by simp only [szL,D.sz]; omega)
 simp only [he];have e1:=s76 (b:=(sub b a0.size)) b1 c1 (Bd.sub hb _);skip
 simp only [e1,B5,nth,B7,B8,D.I,D.S,D.L,D.B];rcases sz_case (b:=(sub (sub b a0.size) (D.sz (.sl a1)))) (Bd.sub (Bd.sub hb _) _) b2 with ⟨hh,he⟩ | he
 · simp only [H7 hh,H1,T4]
   rw [sub_sub (Bd.sub hb _)] at he;rw [sub_sub hb] at he;exact sub_dead he hb (by simp only [szL,D.sz]; omega)
 simp only [he];rw [sz_end _ (Bd.sub (Bd.sub (Bd.sub hb _) _) _)];rw [sz_step _ (Bd.sub (Bd.sub hb _) _)];rw [sub_sub (Bd.sub hb _)];rw [sz_step _ (Bd.sub hb _)];rw [sub_sub hb];exact sub_congr (by simp only [szL,D.sz] <;> omega)
theorem s146 {rs:Rows} (hl:rs.length<=maxLen) (hW:WRs H rs L279) {b:Int} (hb:Bd b):rn ⟨146,0,0⟩ [.sl rs,.int b]=some (0,[.int (sub b (D.sz (.sl rs)))]):=by
 show rn ⟨146,0,0⟩ _=_
 rw [e146_0_0];simp only [D.sz];refine sz_pay hb hl (F:=fun c=>(rn ⟨146,0,1⟩ [.sl rs,.int c,.int 0]).bind fun r1=>bif E3 r1.1 0 then some (0,[.int ((nth r1.2 0).I)]) else bif E3 r1.1 1 then some (0,[.int ((nth r1.2 0).I)]) else none) fun c hc h0=>?_
 have:=sz_loop (F:=fun i b=>rn ⟨146,0,1⟩ [.sl rs,.int b,.int (i:Int)]) (rows:=rs) (fun i hi b hb h0=>?_) (fun b hb=>?_) hc h0
 · simp only [C4] at this
   show ((rn _ _).bind _=_)
   rw [this];split
   · rfl
   · rename_i hh; rw [sub_neg _ (by omega)]; rfl
 · have hw:=WRs_mem hW (C0 hi)
   obtain ⟨a0,a1,a2,hr,b0,b1,c1,b2⟩:=wl279 hw;rw [hr] at hw;have hc:=s226 hw hb;rw [<- hr] at hc;generalize hq:szL rs[i]=q at hc ⊢;rw [hr] at hc;simp only [D4,D0] at hc;skip
   rw [e146_0_1];simp only [B9,rowAt_eq hi,hr,inbN,hi,H3,H1,C3,nth,B7,B8,D.I,D.S,D.L,D.B,wrap_succ hi hl];rw [hc];simp only [B5,nth,B7,B8,D.I,D.S,D.L,D.B];by_cases hq:0<=sub b q
   · rw [H5 hq,H8 (by omega)]; rfl
   · rw [H6 hq,H7 (by omega)]; rfl
 · skip
   rw [e146_0_1];simp
theorem s73 {ds:List D} (h:WL H ds L25) {b:Int} (hb:Bd b):rn ⟨73,0,0⟩ (ds++[.int b])=some (0,[.int (sub b (szL ds))]):=by
 have h0:=h;obtain ⟨a0,a1,rfl,b0,c0,b1,c1⟩:=wl25 h;show rn ⟨73,0,0⟩ [D.sl a0,D.sl a1,.int b]=_
 rw [e73_0_0];have e0:=s76 (b:=b) b0 c0 hb;skip
 simp only [e0,B5,nth,B7,B8,D.I,D.S,D.L,D.B];have e1:=s146 (b:=(sub b (D.sz (.sl a0)))) b1 c1 (Bd.sub hb _);skip
 simp only [e1,B5,nth,B7,B8,D.I,D.S,D.L,D.B];rw [sz_end _ (Bd.sub (Bd.sub hb _) _)];rw [sz_step _ (Bd.sub hb _)];rw [sub_sub hb];exact sub_congr (by simp only [szL,D.sz] <;> omega)
theorem s149 {rs:Rows} (hl:rs.length<=maxLen) (hW:WRs H rs L32) (hel:∀ r∈rs,∀ b,Bd b->rn ⟨77,0,0⟩ (r++[.int b])=some (0,[.int (sub b (szL r))])) {b:Int} (hb:Bd b):rn ⟨149,0,0⟩ [.sl rs,.int b]=some (0,[.int (sub b (D.sz (.sl rs)))]):=by
 show rn ⟨149,0,0⟩ _=_
 rw [e149_0_0];simp only [D.sz];refine sz_pay hb hl (F:=fun c=>(rn ⟨149,0,1⟩ [.sl rs,.int c,.int 0]).bind fun r1=>bif E3 r1.1 0 then some (0,[.int ((nth r1.2 0).I)]) else bif E3 r1.1 1 then some (0,[.int ((nth r1.2 0).I)]) else none) fun c hc h0=>?_
 have:=sz_loop (F:=fun i b=>rn ⟨149,0,1⟩ [.sl rs,.int b,.int (i:Int)]) (rows:=rs) (fun i hi b hb h0=>?_) (fun b hb=>?_) hc h0
 · simp only [C4] at this
   show ((rn _ _).bind _=_)
   rw [this];split
   · rfl
   · rename_i hh; rw [sub_neg _ (by omega)]; rfl
 · have hw:=WRs_mem hW (C0 hi)
   obtain ⟨a0,a1,a2,a3,hr,b2,b3,c3⟩:=wl32 hw;rw [hr] at hw;have hc:=hel rs[i] (C0 hi) b hb;generalize hq:szL rs[i]=q at hc ⊢;rw [hr] at hc;simp only [D4,D0] at hc;skip
   rw [e149_0_1];simp only [B9,rowAt_eq hi,hr,inbN,hi,H3,H1,C3,nth,B7,B8,D.I,D.S,D.L,D.B,wrap_succ hi hl];rw [hc];simp only [B5,nth,B7,B8,D.I,D.S,D.L,D.B];by_cases hq:0<=sub b q
   · rw [H5 hq,H8 (by omega)]; rfl
   · rw [H6 hq,H7 (by omega)]; rfl
 · skip
   rw [e149_0_1];simp
theorem s77:∀ (N:Nat) (ds:List D),SizeOf.sizeOf ds<N->WL H ds L32->∀ b,Bd b->rn ⟨77,0,0⟩ (ds++[.int b])=some (0,[.int (sub b (szL ds))])
 | 0,ds,hN,_,_,_=>absurd hN (P9 _)
 | N+1,ds,hN,h,b,hb=>by
  have h0:=h;obtain ⟨a0,a1,a2,a3,rfl,b2,b3,c3⟩:=wl32 h;show rn ⟨77,0,0⟩ [D.int a0,D.int a1,D.str a2,D.sl a3,.int b]=_
  rw [e77_0_0];rcases sz_case (b:=b) hb b2 with ⟨hh,he⟩ | he
  · simp only [H7 hh,H1,T4]
    exact sub_dead he hb (by simp only [szL,D.sz]; omega)
  simp only [he];have e3:=s149 (b:=(sub b a2.size)) b3 c3 (fun r hr b hb=>s77 N r (by have h1:=size_row hr; simp only [J5.sizeOf_spec,D.sl.sizeOf_spec] at hN; omega) (WRs_mem c3 hr) b hb) (Bd.sub hb _)
  skip
  simp only [e3,B5,nth,B7,B8,D.I,D.S,D.L,D.B];rw [sz_end _ (Bd.sub (Bd.sub hb _) _)];rw [sz_step _ (Bd.sub hb _)];rw [sub_sub hb];exact sub_congr (by simp only [szL,D.sz] <;> omega)
theorem s277 {ds:List D} (h:WL H ds L311) {b:Int} (hb:Bd b):rn ⟨277,0,0⟩ (ds++[.int b])=some (0,[.int (sub b (szL ds))]):=by
 have h0:=h;obtain ⟨a0,a1,a2,a3,a4,a5,a6,a7,a8,rfl,b3,b4,c4,b7,b8,c8⟩:=wl311 h;show rn ⟨277,0,0⟩ [D.int a0,D.int a1,D.int a2,D.str a3,D.sl a4,D.int a5,D.int a6,D.str a7,D.sl a8,.int b]=_
 rw [e277_0_0];have w1:WL H [D.int a1,D.int a2,D.str a3,D.sl a4] L32:=WL.part 1 4 h0;have e1:=s77 _ _ (F9 _) w1 b hb;simp only [D4,D0] at e1;skip
 simp only [e1,B5,nth,B7,B8,D.I,D.S,D.L,D.B];have w5:WL H [D.int a5,D.int a6,D.str a7,D.sl a8] L32:=WL.part 5 4 h0;have e5:=s77 _ _ (F9 _) w5 (sub b (szL [D.int a1,D.int a2,D.str a3,D.sl a4])) (Bd.sub hb _);simp only [D4,D0] at e5;skip
 simp only [e5,B5,nth,B7,B8,D.I,D.S,D.L,D.B];rw [sz_end _ (Bd.sub (Bd.sub hb _) _)];rw [sz_step _ (Bd.sub hb _)];rw [sub_sub hb];exact sub_congr (by simp only [szL,D.sz] <;> omega)
theorem s200 {rs:Rows} (hl:rs.length<=maxLen) (hW:WRs H rs L311) {b:Int} (hb:Bd b):rn ⟨200,0,0⟩ [.sl rs,.int b]=some (0,[.int (sub b (D.sz (.sl rs)))]):=by
 show rn ⟨200,0,0⟩ _=_
 rw [e200_0_0];simp only [D.sz];refine sz_pay hb hl (F:=fun c=>(rn ⟨200,0,1⟩ [.sl rs,.int c,.int 0]).bind fun r1=>bif E3 r1.1 0 then some (0,[.int ((nth r1.2 0).I)]) else bif E3 r1.1 1 then some (0,[.int ((nth r1.2 0).I)]) else none) fun c hc h0=>?_
 have:=sz_loop (F:=fun i b=>rn ⟨200,0,1⟩ [.sl rs,.int b,.int (i:Int)]) (rows:=rs) (fun i hi b hb h0=>?_) (fun b hb=>?_) hc h0
 · simp only [C4] at this
   show ((rn _ _).bind _=_)
   rw [this];split
   · rfl
   · rename_i hh; rw [sub_neg _ (by omega)]; rfl
 · have hw:=WRs_mem hW (C0 hi)
   obtain ⟨a0,a1,a2,a3,a4,a5,a6,a7,a8,hr,b3,b4,c4,b7,b8,c8⟩:=wl311 hw;rw [hr] at hw;have hc:=s277 hw hb;rw [<- hr] at hc;generalize hq:szL rs[i]=q at hc ⊢;rw [hr] at hc;simp only [D4,D0] at hc;skip
   rw [e200_0_1];simp only [B9,rowAt_eq hi,hr,inbN,hi,H3,H1,C3,nth,B7,B8,D.I,D.S,D.L,D.B,wrap_succ hi hl];rw [hc];simp only [B5,nth,B7,B8,D.I,D.S,D.L,D.B];by_cases hq:0<=sub b q
   · rw [H5 hq,H8 (by omega)]; rfl
   · rw [H6 hq,H7 (by omega)]; rfl
 · skip
   rw [e200_0_1];simp
theorem s147 {ds:List D} (h:WL H ds L197) {b:Int} (hb:Bd b):rn ⟨147,0,0⟩ (ds++[.int b])=some (0,[.int (sub b (szL ds))]):=by
 have h0:=h;obtain ⟨a0,a1,a2,a3,a4,a5,a6,a7,a8,a9,rfl,b0,b3,b4,c4,b7,b8,c8,b9,c9⟩:=wl197 h;show rn ⟨147,0,0⟩ [D.str a0,D.int a1,D.int a2,D.str a3,D.sl a4,D.int a5,D.int a6,D.str a7,D.sl a8,D.sl a9,.int b]=_
 rw [e147_0_0];rcases sz_case (b:=b) hb b0 with ⟨hh,he⟩ | he
 · simp only [H7 hh,H1,T4]
   exact sub_dead he hb (by simp only [szL,D.sz]; omega)
 simp only [he];have w1:WL H [D.int a1,D.int a2,D.str a3,D.sl a4] L32:=WL.part 1 4 h0;have e1:=s77 _ _ (F9 _) w1 (sub b a0.size) (Bd.sub hb _);simp only [D4,D0] at e1;skip
 simp only [e1,B5,nth,B7,B8,D.I,D.S,D.L,D.B];have w5:WL H [D.int a5,D.int a6,D.str a7,D.sl a8] L32:=WL.part 5 4 h0;have e5:=s77 _ _ (F9 _) w5 (sub (sub b a0.size) (szL [D.int a1,D.int a2,D.str a3,D.sl a4])) (Bd.sub (Bd.sub hb _) _);simp only [D4,D0] at e5;skip
 simp only [e5,B5,nth,B7,B8,D.I,D.S,D.L,D.B];have e9:=s200 (b:=(sub (sub (sub b a0.size) (szL [D.int a1,D.int a2,D.str a3,D.sl a4])) (szL [D.int a5,D.int a6,D.str a7,D.sl a8]))) b9 c9 (Bd.sub (Bd.sub (Bd.sub hb _) _) _);skip
 simp only [e9,B5,nth,B7,B8,D.I,D.S,D.L,D.B];rw [sz_end _ (Bd.sub (Bd.sub (Bd.sub (Bd.sub hb _) _) _) _)];rw [sz_step _ (Bd.sub (Bd.sub (Bd.sub hb _) _) _)];rw [sub_sub (Bd.sub (Bd.sub hb _) _)];rw [sz_step _ (Bd.sub (Bd.sub hb _) _)];rw [sub_sub (Bd.sub hb _)];rw [sz_step _ (Bd.sub hb _)];rw [sub_sub hb];exact sub_congr (by simp only [szL,D.sz] <;> omega)
theorem s74 {rs:Rows} (hl:rs.length<=maxLen) (hW:WRs H rs L197) {b:Int} (hb:Bd b):rn ⟨74,0,0⟩ [.sl rs,.int b]=some (0,[.int (sub b (D.sz (.sl rs)))]):=by
 show rn ⟨74,0,0⟩ _=_
 rw [e74_0_0];simp only [D.sz];refine sz_pay hb hl (F:=fun c=>(rn ⟨74,0,1⟩ [.sl rs,.int c,.int 0]).bind fun r1=>bif E3 r1.1 0 then some (0,[.int ((nth r1.2 0).I)]) else bif E3 r1.1 1 then some (0,[.int ((nth r1.2 0).I)]) else none) fun c hc h0=>?_
 have:=sz_loop (F:=fun i b=>rn ⟨74,0,1⟩ [.sl rs,.int b,.int (i:Int)]) (rows:=rs) (fun i hi b hb h0=>?_) (fun b hb=>?_) hc h0
 · simp only [C4] at this
   show ((rn _ _).bind _=_)
   rw [this];split
   · rfl
   · rename_i hh; rw [sub_neg _ (by omega)]; rfl
 · have hw:=WRs_mem hW (C0 hi)
   obtain ⟨a0,a1,a2,a3,a4,a5,a6,a7,a8,a9,hr,b0,b3,b4,c4,b7,b8,c8,b9,c9⟩:=wl197 hw;rw [hr] at hw;have hc:=s147 hw hb;rw [<- hr] at hc;generalize hq:szL rs[i]=q at hc ⊢;rw [hr] at hc;simp only [D4,D0] at hc;skip
   rw [e74_0_1];simp only [B9,rowAt_eq hi,hr,inbN,hi,H3,H1,C3,nth,B7,B8,D.I,D.S,D.L,D.B,wrap_succ hi hl];rw [hc];simp only [B5,nth,B7,B8,D.I,D.S,D.L,D.B];by_cases hq:0<=sub b q
   · rw [H5 hq,H8 (by omega)]; rfl
   · rw [H6 hq,H7 (by omega)]; rfl
 · skip
   rw [e74_0_1];simp
theorem s148 {ds:List D} (h:WL H ds L200) {b:Int} (hb:Bd b):rn ⟨148,0,0⟩ (ds++[.int b])=some (0,[.int (sub b (szL ds))]):=by
 have h0:=h;obtain ⟨a0,a1,rfl,b0⟩:=wl200 h;show rn ⟨148,0,0⟩ [D.str a0,D.int a1,.int b]=_
 rw [e148_0_0];rcases sz_case (b:=b) hb b0 with ⟨hh,he⟩ | he
 · simp only [H7 hh,H1,T4]
   exact sub_dead he hb (by simp only [szL,D.sz]; omega)
 simp only [he];rw [sz_end _ (Bd.sub hb _)];exact sub_congr (by simp only [szL,D.sz] <;> omega)
theorem s75 {rs:Rows} (hl:rs.length<=maxLen) (hW:WRs H rs L200) {b:Int} (hb:Bd b):rn ⟨75,0,0⟩ [.sl rs,.int b]=some (0,[.int (sub b (D.sz (.sl rs)))]):=by
 show rn ⟨75,0,0⟩ _=_
 rw [e75_0_0];simp only [D.sz];refine sz_pay hb hl (F:=fun c=>(rn ⟨75,0,1⟩ [.sl rs,.int c,.int 0]).bind fun r1=>bif E3 r1.1 0 then some (0,[.int ((nth r1.2 0).I)]) else bif E3 r1.1 1 then some (0,[.int ((nth r1.2 0).I)]) else none) fun c hc h0=>?_
 have:=sz_loop (F:=fun i b=>rn ⟨75,0,1⟩ [.sl rs,.int b,.int (i:Int)]) (rows:=rs) (fun i hi b hb h0=>?_) (fun b hb=>?_) hc h0
 · simp only [C4] at this
   show ((rn _ _).bind _=_)
   rw [this];split
   · rfl
   · rename_i hh; rw [sub_neg _ (by omega)]; rfl
 · have hw:=WRs_mem hW (C0 hi)
   obtain ⟨a0,a1,hr,b0⟩:=wl200 hw;rw [hr] at hw;have hc:=s148 hw hb;rw [<- hr] at hc;generalize hq:szL rs[i]=q at hc ⊢;rw [hr] at hc;simp only [D4,D0] at hc;skip
   rw [e75_0_1];simp only [B9,rowAt_eq hi,hr,inbN,hi,H3,H1,C3,nth,B7,B8,D.I,D.S,D.L,D.B,wrap_succ hi hl];rw [hc];simp only [B5,nth,B7,B8,D.I,D.S,D.L,D.B];by_cases hq:0<=sub b q
   · rw [H5 hq,H8 (by omega)]; rfl
   · rw [H6 hq,H7 (by omega)]; rfl
 · skip
   rw [e75_0_1];simp
theorem s14 {ds:List D} (h:WL H ds L29) {b:Int} (hb:Bd b):rn ⟨14,0,0⟩ (ds++[.int b])=some (0,[.int (sub b (szL ds))]):=by
 have h0:=h;obtain ⟨a0,a1,a2,a3,rfl,b0,c0,b1,c1,b2,c2,b3,c3⟩:=wl29 h;show rn ⟨14,0,0⟩ [D.sl a0,D.sl a1,D.sl a2,D.sl a3,.int b]=_
 rw [e14_0_0];have w0:WL H [D.sl a0,D.sl a1] L25:=WL.part 0 2 h0;have e0:=s73 w0 (b:=b) hb;simp only [D4,D0] at e0;skip
 simp only [e0,B5,nth,B7,B8,D.I,D.S,D.L,D.B];have e2:=s74 (b:=(sub b (szL [D.sl a0,D.sl a1]))) b2 c2 (Bd.sub hb _);skip
 simp only [e2,B5,nth,B7,B8,D.I,D.S,D.L,D.B];have e3:=s75 (b:=(sub (sub b (szL [D.sl a0,D.sl a1])) (D.sz (.sl a2)))) b3 c3 (Bd.sub (Bd.sub hb _) _);skip
 simp only [e3,B5,nth,B7,B8,D.I,D.S,D.L,D.B];rw [sz_end _ (Bd.sub (Bd.sub (Bd.sub hb _) _) _)];rw [sz_step _ (Bd.sub (Bd.sub hb _) _)];rw [sub_sub (Bd.sub hb _)];rw [sz_step _ (Bd.sub hb _)];rw [sub_sub hb];exact sub_congr (by simp only [szL,D.sz] <;> omega)
theorem s78 {rs:Rows} (hl:rs.length<=maxLen) (hW:WRs H rs L3) {b:Int} (hb:Bd b):rn ⟨78,0,0⟩ [.sl rs,.int b]=some (0,[.int (sub b (D.sz (.sl rs)))]):=by
 show rn ⟨78,0,0⟩ _=_
 rw [e78_0_0];simp only [D.sz];have hz:szR rs=0:=by
  have:∀ (l:Rows),WRs H l L3->szR l=0:=fun l=>by
   induction l with
   | nil=>intro _; rfl
   | cons r l ih =>
    intro hw;simp only [WRs] at hw;obtain ⟨a0,rfl⟩:=wl3 hw.1;simp only [szR,szL,D.sz,ih hw.2]
  exact this rs hW
 rw [hz];exact sz_pay0 hb hl
def L35:List CT:=[.sl 9,.int .i64,.int .i64,.str,.sl 32,.sl 3]
theorem ty35:H.ty 35=some ⟨true,L35,[(0,22),(1,32),(5,33)]⟩:=by kernel_rfl
theorem wl35 {ds:List D} (h:WL H ds L35):∃ a0 a1 a2 a3 a4 a5,ds=[D.sl a0,D.int a1,D.int a2,D.str a3,D.sl a4,D.sl a5]/\a0.length<=maxLen/\WRs H a0 L9/\a3.size<=maxLen/\a4.length<=maxLen/\WRs H a4 L32/\a5.length<=maxLen/\WRs H a5 L3:=by
 unfold L35 at h;obtain ⟨a0,_,rfl,b0,c0,h⟩:=wl_sl ty9 h;obtain ⟨a1,_,rfl,_,h⟩:=wl_int h;obtain ⟨a2,_,rfl,_,h⟩:=wl_int h;obtain ⟨a3,_,rfl,b3,h⟩:=wl_str h;obtain ⟨a4,_,rfl,b4,c4,h⟩:=wl_sl ty32 h;obtain ⟨a5,_,rfl,b5,c5,h⟩:=wl_sl ty3 h;obtain rfl:=wl_nil h;exact ⟨a0,a1,a2,a3,a4,a5,rfl,b0,c0,b3,b4,c4,b5,c5⟩
theorem s15 {ds:List D} (h:WL H ds L35) {b:Int} (hb:Bd b):rn ⟨15,0,0⟩ (ds++[.int b])=some (0,[.int (sub b (szL ds))]):=by
 have h0:=h;obtain ⟨a0,a1,a2,a3,a4,a5,rfl,b0,c0,b3,b4,c4,b5,c5⟩:=wl35 h;show rn ⟨15,0,0⟩ [D.sl a0,D.int a1,D.int a2,D.str a3,D.sl a4,D.sl a5,.int b]=_
 rw [e15_0_0];have e0:=s76 (b:=b) b0 c0 hb;skip
 simp only [e0,B5,nth,B7,B8,D.I,D.S,D.L,D.B];have w1:WL H [D.int a1,D.int a2,D.str a3,D.sl a4] L32:=WL.part 1 4 h0;have e1:=s77 _ _ (F9 _) w1 (sub b (D.sz (.sl a0))) (Bd.sub hb _);simp only [D4,D0] at e1;skip
 simp only [e1,B5,nth,B7,B8,D.I,D.S,D.L,D.B];have e5:=s78 (b:=(sub (sub b (D.sz (.sl a0))) (szL [D.int a1,D.int a2,D.str a3,D.sl a4]))) b5 c5 (Bd.sub (Bd.sub hb _) _);skip
 simp only [e5,B5,nth,B7,B8,D.I,D.S,D.L,D.B];rw [sz_end _ (Bd.sub (Bd.sub (Bd.sub hb _) _) _)];rw [sz_step _ (Bd.sub (Bd.sub hb _) _)];rw [sub_sub (Bd.sub hb _)];rw [sz_step _ (Bd.sub hb _)];rw [sub_sub hb];exact sub_congr (by simp only [szL,D.sz] <;> omega)
theorem c83 {rs:Rows} (hz:rs.length+szR rs<=1048576) (hW:WRs H rs L9):rn ⟨83,0,0⟩ [.sl rs]=some (0,[.sl rs]):=by
 show rn ⟨83,0,0⟩ _=_
 rw [e83_0_0];have hf:=fill_loop (F:=fun i y=>rn ⟨83,0,1⟩ [.sl rs,.int (i:Int),.sl y]) (rows:=rs) (w:=1) (z:=[.str (⟨#[]⟩:ByteArray)]) rfl (fun r hr=>(WRs_mem hW hr).len) (fun i hi y hy hyw=>?_) (fun y=>?_)
 · simp only [C4] at hf
   rw [H7 (by omega:(0:Int)<=(rs.length:Int)),H7 (by unfold M63; omega:(rs.length:Int)<=(M63:Int)),H7 rfl]
   simp only [N8,H1,B9];rw [hf];rfl
 · have hw:=WRs_mem hW (C0 hi)
   have hzi:=szR_mem (C0 hi);obtain ⟨a0,hr,b0⟩:=wl9 hw;rw [hr] at hw hzi;skip
   rw [e83_0_1];have hlen:rs.length<=maxLen:=by unfold maxLen; omega
   have hi2:i<y.length:=by omega
   have hov:∀ l:List D,l.length=1->over 0 l (rowAt y i)=l:=fun l hl=>over0_eq (by rw [rowAt_eq hi2,hyw _ (C0 hi2),hl])
   simp only [B9,rowAt_eq hi,hr,inbN,hi,hi2,H3,H1,C3,nth,B7,B8,D.I,D.S,D.L,D.B,wrap_succ hi hlen];rw [hov _ rfl]
 · skip
   rw [e83_0_1];simp
theorem c240 {a0:ByteArray} {a1:Rows} {a2:ByteArray} (hz:szL [D.str a0,D.sl a1,D.str a2]<=1048576) (h:WL H [D.str a0,D.sl a1,D.str a2] L279):rn ⟨240,0,0⟩ [D.str a0,D.sl a1,D.str a2]=some (0,[D.str a0,D.str a2,D.sl a1]):=by
 obtain ⟨x0,x1,x2,hh,bx0,bx1,cx1,bx2⟩:=wl279 h;simp only [J5.injEq,D.int.injEq,D.bool.injEq,D.str.injEq,D.sl.injEq,and_true] at hh;obtain ⟨rfl,rfl,rfl⟩:=hh;show rn ⟨240,0,0⟩ _=_
 rw [e240_0_0];simp only [szL,D.sz] at hz;have e1:=c83 (rs:=a1) (by omega) cx1
 skip
 all_goals simp only [e1,B5,nth,B7,B8,D.I,D.S,D.L,D.B]
theorem c158 {rs:Rows} (hz:rs.length+szR rs<=1048576) (hW:WRs H rs L279):rn ⟨158,0,0⟩ [.sl rs]=some (0,[.sl rs]):=by
 show rn ⟨158,0,0⟩ _=_
 rw [e158_0_0];have hf:=fill_loop (F:=fun i y=>rn ⟨158,0,1⟩ [.sl rs,.int (i:Int),.sl y]) (rows:=rs) (w:=3) (z:=[.str (⟨#[]⟩:ByteArray),.sl [],.str (⟨#[]⟩:ByteArray)]) rfl (fun r hr=>(WRs_mem hW hr).len) (fun i hi y hy hyw=>?_) (fun y=>?_)
 · simp only [C4] at hf
   rw [H7 (by omega:(0:Int)<=(rs.length:Int)),H7 (by unfold M63; omega:(rs.length:Int)<=(M63:Int)),H7 rfl]
   simp only [N8,H1,B9];rw [hf];rfl
 · have hw:=WRs_mem hW (C0 hi)
   have hzi:=szR_mem (C0 hi);obtain ⟨a0,a1,a2,hr,b0,b1,c1,b2⟩:=wl279 hw;rw [hr] at hw hzi;have hc:=c240 (by omega) hw
   skip
   skip
   rw [e158_0_1];have hlen:rs.length<=maxLen:=by unfold maxLen; omega
   have hi2:i<y.length:=by omega
   have hov:∀ l:List D,l.length=3->over 0 l (rowAt y i)=l:=fun l hl=>over0_eq (by rw [rowAt_eq hi2,hyw _ (C0 hi2),hl])
   simp only [B9,rowAt_eq hi,hr,inbN,hi,hi2,H3,H1,C3,nth,B7,B8,D.I,D.S,D.L,D.B,wrap_succ hi hlen];simp only [hc,B5,nth,B7,B8,D.I,D.S,D.L,D.B];rw [hov _ rfl]
 · skip
   rw [e158_0_1];simp
theorem c80 {a0:Rows} {a1:Rows} (hz:szL [D.sl a0,D.sl a1]<=1048576) (h:WL H [D.sl a0,D.sl a1] L25):rn ⟨80,0,0⟩ [D.sl a0,D.sl a1]=some (0,[D.sl a0,D.sl a1]):=by
 obtain ⟨x0,x1,hh,bx0,cx0,bx1,cx1⟩:=wl25 h;simp only [J5.injEq,D.int.injEq,D.bool.injEq,D.str.injEq,D.sl.injEq,and_true] at hh;obtain ⟨rfl,rfl⟩:=hh;show rn ⟨80,0,0⟩ _=_
 rw [e80_0_0];simp only [szL,D.sz] at hz;have e0:=c83 (rs:=a0) (by omega) cx0
 skip
 have e1:=c158 (rs:=a1) (by omega) cx1
 skip
 all_goals simp only [e0,e1,B5,nth,B7,B8,D.I,D.S,D.L,D.B]
theorem c161 {rs:Rows} (hz:rs.length+szR rs<=1048576) (hW:WRs H rs L32) {N:Nat} (hN:∀ r∈rs,SizeOf.sizeOf r<N) (hel:∀ (a0:Int) (a1:Int) (a2:ByteArray) (a3:Rows),SizeOf.sizeOf ([D.int a0,D.int a1,D.str a2,D.sl a3]:List D)<N->szL [D.int a0,D.int a1,D.str a2,D.sl a3]<=1048576->WL H [D.int a0,D.int a1,D.str a2,D.sl a3] L32->rn ⟨84,0,0⟩ [D.int a0,D.int a1,D.str a2,D.sl a3]=some (0,[D.int a0,D.int a1,D.str a2,D.sl a3])):rn ⟨161,0,0⟩ [.sl rs]=some (0,[.sl rs]):=by
 show rn ⟨161,0,0⟩ _=_
 rw [e161_0_0];have hf:=fill_loop (F:=fun i y=>rn ⟨161,0,1⟩ [.sl rs,.int (i:Int),.sl y]) (rows:=rs) (w:=4) (z:=[.int 0,.int 0,.str (⟨#[]⟩:ByteArray),.sl []]) rfl (fun r hr=>(WRs_mem hW hr).len) (fun i hi y hy hyw=>?_) (fun y=>?_)
 · simp only [C4] at hf
   rw [H7 (by omega:(0:Int)<=(rs.length:Int)),H7 (by unfold M63; omega:(rs.length:Int)<=(M63:Int)),H7 rfl]
   simp only [N8,H1,B9];rw [hf];rfl
 · have hw:=WRs_mem hW (C0 hi)
   have hzi:=szR_mem (C0 hi);obtain ⟨a0,a1,a2,a3,hr,b2,b3,c3⟩:=wl32 hw;have hNi:=hN _ (C0 hi);rw [hr] at hw hzi hNi;have hc:=hel a0 a1 a2 a3 hNi (by omega) hw
   skip
   skip
   rw [e161_0_1];have hlen:rs.length<=maxLen:=by unfold maxLen; omega
   have hi2:i<y.length:=by omega
   have hov:∀ l:List D,l.length=4->over 0 l (rowAt y i)=l:=fun l hl=>over0_eq (by rw [rowAt_eq hi2,hyw _ (C0 hi2),hl])
   simp only [B9,rowAt_eq hi,hr,inbN,hi,hi2,H3,H1,C3,nth,B7,B8,D.I,D.S,D.L,D.B,wrap_succ hi hlen];simp only [hc,B5,nth,B7,B8,D.I,D.S,D.L,D.B];rw [hov _ rfl]
 · skip
   rw [e161_0_1];simp
theorem c84:∀ (N:Nat) (a0:Int) (a1:Int) (a2:ByteArray) (a3:Rows),SizeOf.sizeOf ([D.int a0,D.int a1,D.str a2,D.sl a3]:List D)<N->szL [D.int a0,D.int a1,D.str a2,D.sl a3]<=1048576->WL H [D.int a0,D.int a1,D.str a2,D.sl a3] L32->rn ⟨84,0,0⟩ [D.int a0,D.int a1,D.str a2,D.sl a3]=some (0,[D.int a0,D.int a1,D.str a2,D.sl a3])
 | 0,a0,a1,a2,a3,hN,_,_=>absurd hN (P9 _)
 | N+1,a0,a1,a2,a3,hN,hz,h=>by
  obtain ⟨x0,x1,x2,x3,hh,bx2,bx3,cx3⟩:=wl32 h;simp only [J5.injEq,D.int.injEq,D.bool.injEq,D.str.injEq,D.sl.injEq,and_true] at hh;obtain ⟨rfl,rfl,rfl,rfl⟩:=hh;show rn ⟨84,0,0⟩ _=_
  rw [e84_0_0];simp only [szL,D.sz] at hz;have e3:rn ⟨161,0,0⟩ [.sl a3]=some (0,[.sl a3]):=c161 (by omega) cx3 (N:=N) (fun r hr=>by have h1:=size_row hr; simp only [J5.sizeOf_spec,D.sl.sizeOf_spec] at hN; omega) (c84 N)
  skip
  all_goals simp only [e3,B5,nth,B7,B8,D.I,D.S,D.L,D.B]
theorem c285 {a0:Int} {a1:Int} {a2:Int} {a3:ByteArray} {a4:Rows} {a5:Int} {a6:Int} {a7:ByteArray} {a8:Rows} (hz:szL [D.int a0,D.int a1,D.int a2,D.str a3,D.sl a4,D.int a5,D.int a6,D.str a7,D.sl a8]<=1048576) (h:WL H [D.int a0,D.int a1,D.int a2,D.str a3,D.sl a4,D.int a5,D.int a6,D.str a7,D.sl a8] L311):rn ⟨285,0,0⟩ [D.int a0,D.int a1,D.int a2,D.str a3,D.sl a4,D.int a5,D.int a6,D.str a7,D.sl a8]=some (0,[D.int a0,D.int a1,D.int a2,D.str a3,D.int a5,D.int a6,D.str a7,D.sl a4,D.sl a8]):=by
 obtain ⟨x0,x1,x2,x3,x4,x5,x6,x7,x8,hh,bx3,bx4,cx4,bx7,bx8,cx8⟩:=wl311 h;simp only [J5.injEq,D.int.injEq,D.bool.injEq,D.str.injEq,D.sl.injEq,and_true] at hh;obtain ⟨rfl,rfl,rfl,rfl,rfl,rfl,rfl,rfl,rfl⟩:=hh;show rn ⟨285,0,0⟩ _=_
 rw [e285_0_0];simp only [szL,D.sz] at hz;have w1:WL H [D.int a1,D.int a2,D.str a3,D.sl a4] L32:=WL.part 1 4 h;have e1:=c84 _ a1 a2 a3 a4 (F9 _) (by simp only [szL,D.sz]; omega) w1
 skip
 have w5:WL H [D.int a5,D.int a6,D.str a7,D.sl a8] L32:=WL.part 5 4 h;have e5:=c84 _ a5 a6 a7 a8 (F9 _) (by simp only [szL,D.sz]; omega) w5
 skip
 all_goals simp only [e1,e5,B5,nth,B7,B8,D.I,D.S,D.L,D.B]
theorem c206 {rs:Rows} (hz:rs.length+szR rs<=1048576) (hW:WRs H rs L311):rn ⟨206,0,0⟩ [.sl rs]=some (0,[.sl rs]):=by
 show rn ⟨206,0,0⟩ _=_
 rw [e206_0_0];have hf:=fill_loop (F:=fun i y=>rn ⟨206,0,1⟩ [.sl rs,.int (i:Int),.sl y]) (rows:=rs) (w:=9) (z:=[.int 0,.int 0,.int 0,.str (⟨#[]⟩:ByteArray),.sl [],.int 0,.int 0,.str (⟨#[]⟩:ByteArray),.sl []]) rfl (fun r hr=>(WRs_mem hW hr).len) (fun i hi y hy hyw=>?_) (fun y=>?_)
 · simp only [C4] at hf
   rw [H7 (by omega:(0:Int)<=(rs.length:Int)),H7 (by unfold M63; omega:(rs.length:Int)<=(M63:Int)),H7 rfl]
   simp only [N8,H1,B9];rw [hf];rfl
 · have hw:=WRs_mem hW (C0 hi)
   have hzi:=szR_mem (C0 hi);obtain ⟨a0,a1,a2,a3,a4,a5,a6,a7,a8,hr,b3,b4,c4,b7,b8,c8⟩:=wl311 hw;rw [hr] at hw hzi;have hc:=c285 (by omega) hw
   skip
   skip
   rw [e206_0_1];have hlen:rs.length<=maxLen:=by unfold maxLen; omega
   have hi2:i<y.length:=by omega
   have hov:∀ l:List D,l.length=9->over 0 l (rowAt y i)=l:=fun l hl=>over0_eq (by rw [rowAt_eq hi2,hyw _ (C0 hi2),hl])
   simp only [B9,rowAt_eq hi,hr,inbN,hi,hi2,H3,H1,C3,nth,B7,B8,D.I,D.S,D.L,D.B,wrap_succ hi hlen];simp only [hc,B5,nth,B7,B8,D.I,D.S,D.L,D.B];rw [hov _ rfl]
 · skip
   rw [e206_0_1];simp
theorem c159 {a0:ByteArray} {a1:Int} {a2:Int} {a3:ByteArray} {a4:Rows} {a5:Int} {a6:Int} {a7:ByteArray} {a8:Rows} {a9:Rows} (hz:szL [D.str a0,D.int a1,D.int a2,D.str a3,D.sl a4,D.int a5,D.int a6,D.str a7,D.sl a8,D.sl a9]<=1048576) (h:WL H [D.str a0,D.int a1,D.int a2,D.str a3,D.sl a4,D.int a5,D.int a6,D.str a7,D.sl a8,D.sl a9] L197):rn ⟨159,0,0⟩ [D.str a0,D.int a1,D.int a2,D.str a3,D.sl a4,D.int a5,D.int a6,D.str a7,D.sl a8,D.sl a9]=some (0,[D.str a0,D.int a1,D.int a2,D.str a3,D.int a5,D.int a6,D.str a7,D.sl a4,D.sl a8,D.sl a9]):=by
 obtain ⟨x0,x1,x2,x3,x4,x5,x6,x7,x8,x9,hh,bx0,bx3,bx4,cx4,bx7,bx8,cx8,bx9,cx9⟩:=wl197 h;simp only [J5.injEq,D.int.injEq,D.bool.injEq,D.str.injEq,D.sl.injEq,and_true] at hh;obtain ⟨rfl,rfl,rfl,rfl,rfl,rfl,rfl,rfl,rfl,rfl⟩:=hh;show rn ⟨159,0,0⟩ _=_
 rw [e159_0_0];simp only [szL,D.sz] at hz;have w1:WL H [D.int a1,D.int a2,D.str a3,D.sl a4] L32:=WL.part 1 4 h;have e1:=c84 _ a1 a2 a3 a4 (F9 _) (by simp only [szL,D.sz]; omega) w1
 skip
 have w5:WL H [D.int a5,D.int a6,D.str a7,D.sl a8] L32:=WL.part 5 4 h;have e5:=c84 _ a5 a6 a7 a8 (F9 _) (by simp only [szL,D.sz]; omega) w5
 skip
 have e9:=c206 (rs:=a9) (by omega) cx9
 skip
 all_goals simp only [e1,e5,e9,B5,nth,B7,B8,D.I,D.S,D.L,D.B]
theorem c81 {rs:Rows} (hz:rs.length+szR rs<=1048576) (hW:WRs H rs L197):rn ⟨81,0,0⟩ [.sl rs]=some (0,[.sl rs]):=by
 show rn ⟨81,0,0⟩ _=_
 rw [e81_0_0];have hf:=fill_loop (F:=fun i y=>rn ⟨81,0,1⟩ [.sl rs,.int (i:Int),.sl y]) (rows:=rs) (w:=10) (z:=[.str (⟨#[]⟩:ByteArray),.int 0,.int 0,.str (⟨#[]⟩:ByteArray),.sl [],.int 0,.int 0,.str (⟨#[]⟩:ByteArray),.sl [],.sl []]) rfl (fun r hr=>(WRs_mem hW hr).len) (fun i hi y hy hyw=>?_) (fun y=>?_)
 · simp only [C4] at hf
   rw [H7 (by omega:(0:Int)<=(rs.length:Int)),H7 (by unfold M63; omega:(rs.length:Int)<=(M63:Int)),H7 rfl]
   simp only [N8,H1,B9];rw [hf];rfl
 · have hw:=WRs_mem hW (C0 hi)
   have hzi:=szR_mem (C0 hi);obtain ⟨a0,a1,a2,a3,a4,a5,a6,a7,a8,a9,hr,b0,b3,b4,c4,b7,b8,c8,b9,c9⟩:=wl197 hw;rw [hr] at hw hzi;have hc:=c159 (by omega) hw
   skip
   skip
   rw [e81_0_1];have hlen:rs.length<=maxLen:=by unfold maxLen; omega
   have hi2:i<y.length:=by omega
   have hov:∀ l:List D,l.length=10->over 0 l (rowAt y i)=l:=fun l hl=>over0_eq (by rw [rowAt_eq hi2,hyw _ (C0 hi2),hl])
   simp only [B9,rowAt_eq hi,hr,inbN,hi,hi2,H3,H1,C3,nth,B7,B8,D.I,D.S,D.L,D.B,wrap_succ hi hlen];simp only [hc,B5,nth,B7,B8,D.I,D.S,D.L,D.B];rw [hov _ rfl]
 · skip
   rw [e81_0_1];simp
theorem c160 {a0:ByteArray} {a1:Int} (hz:szL [D.str a0,D.int a1]<=1048576) (h:WL H [D.str a0,D.int a1] L200):rn ⟨160,0,0⟩ [D.str a0,D.int a1]=some (0,[D.str a0,D.int a1]):=by
 obtain ⟨x0,x1,hh,bx0⟩:=wl200 h;simp only [J5.injEq,D.int.injEq,D.bool.injEq,D.str.injEq,D.sl.injEq,and_true] at hh;obtain ⟨rfl,rfl⟩:=hh;show rn ⟨160,0,0⟩ _=_
 rw [e160_0_0];all_goals simp only [B5,nth,B7,B8,D.I,D.S,D.L,D.B]
theorem c82 {rs:Rows} (hz:rs.length+szR rs<=1048576) (hW:WRs H rs L200):rn ⟨82,0,0⟩ [.sl rs]=some (0,[.sl rs]):=by
 show rn ⟨82,0,0⟩ _=_
 rw [e82_0_0];have hf:=fill_loop (F:=fun i y=>rn ⟨82,0,1⟩ [.sl rs,.int (i:Int),.sl y]) (rows:=rs) (w:=2) (z:=[.str (⟨#[]⟩:ByteArray),.int 0]) rfl (fun r hr=>(WRs_mem hW hr).len) (fun i hi y hy hyw=>?_) (fun y=>?_)
 · simp only [C4] at hf
   rw [H7 (by omega:(0:Int)<=(rs.length:Int)),H7 (by unfold M63; omega:(rs.length:Int)<=(M63:Int)),H7 rfl]
   simp only [N8,H1,B9];rw [hf];rfl
 · have hw:=WRs_mem hW (C0 hi)
   have hzi:=szR_mem (C0 hi);obtain ⟨a0,a1,hr,b0⟩:=wl200 hw;rw [hr] at hw hzi;have hc:=c160 (by omega) hw
   skip
   skip
   rw [e82_0_1];have hlen:rs.length<=maxLen:=by unfold maxLen; omega
   have hi2:i<y.length:=by omega
   have hov:∀ l:List D,l.length=2->over 0 l (rowAt y i)=l:=fun l hl=>over0_eq (by rw [rowAt_eq hi2,hyw _ (C0 hi2),hl])
   simp only [B9,rowAt_eq hi,hr,inbN,hi,hi2,H3,H1,C3,nth,B7,B8,D.I,D.S,D.L,D.B,wrap_succ hi hlen];simp only [hc,B5,nth,B7,B8,D.I,D.S,D.L,D.B];rw [hov _ rfl]
 · skip
   rw [e82_0_1];simp
theorem c17 {a0:Rows} {a1:Rows} {a2:Rows} {a3:Rows} (hz:szL [D.sl a0,D.sl a1,D.sl a2,D.sl a3]<=1048576) (h:WL H [D.sl a0,D.sl a1,D.sl a2,D.sl a3] L29):rn ⟨17,0,0⟩ [D.sl a0,D.sl a1,D.sl a2,D.sl a3]=some (0,[D.sl a0,D.sl a1,D.sl a2,D.sl a3]):=by
 obtain ⟨x0,x1,x2,x3,hh,bx0,cx0,bx1,cx1,bx2,cx2,bx3,cx3⟩:=wl29 h;simp only [J5.injEq,D.int.injEq,D.bool.injEq,D.str.injEq,D.sl.injEq,and_true] at hh;obtain ⟨rfl,rfl,rfl,rfl⟩:=hh;show rn ⟨17,0,0⟩ _=_
 rw [e17_0_0];simp only [szL,D.sz] at hz;have w0:WL H [D.sl a0,D.sl a1] L25:=WL.part 0 2 h;have e0:=c80 (by simp only [szL,D.sz]; omega) w0
 skip
 have e2:=c81 (rs:=a2) (by omega) cx2
 skip
 have e3:=c82 (rs:=a3) (by omega) cx3
 skip
 all_goals simp only [e0,e2,e3,B5,nth,B7,B8,D.I,D.S,D.L,D.B]
theorem c85 {rs:Rows} (hz:rs.length+szR rs<=1048576) (hW:WRs H rs L3):rn ⟨85,0,0⟩ [.sl rs]=some (0,[.sl rs]):=by
 show rn ⟨85,0,0⟩ _=_
 rw [e85_0_0];have hf:=fill_loop (F:=fun i y=>rn ⟨85,0,1⟩ [.sl rs,.int (i:Int),.sl y]) (rows:=rs) (w:=1) (z:=[.int 0]) rfl (fun r hr=>(WRs_mem hW hr).len) (fun i hi y hy hyw=>?_) (fun y=>?_)
 · simp only [C4] at hf
   rw [H7 (by omega:(0:Int)<=(rs.length:Int)),H7 (by unfold M63; omega:(rs.length:Int)<=(M63:Int)),H7 rfl]
   simp only [N8,H1,B9];rw [hf];rfl
 · have hw:=WRs_mem hW (C0 hi)
   have hzi:=szR_mem (C0 hi);obtain ⟨a0,hr⟩:=wl3 hw;rw [hr] at hw hzi;skip
   rw [e85_0_1];have hlen:rs.length<=maxLen:=by unfold maxLen; omega
   have hi2:i<y.length:=by omega
   have hov:∀ l:List D,l.length=1->over 0 l (rowAt y i)=l:=fun l hl=>over0_eq (by rw [rowAt_eq hi2,hyw _ (C0 hi2),hl])
   simp only [B9,rowAt_eq hi,hr,inbN,hi,hi2,H3,H1,C3,nth,B7,B8,D.I,D.S,D.L,D.B,wrap_succ hi hlen];rw [hov _ rfl]
 · skip
   rw [e85_0_1];simp
theorem c18 {a0:Rows} {a1:Int} {a2:Int} {a3:ByteArray} {a4:Rows} {a5:Rows} (hz:szL [D.sl a0,D.int a1,D.int a2,D.str a3,D.sl a4,D.sl a5]<=1048576) (h:WL H [D.sl a0,D.int a1,D.int a2,D.str a3,D.sl a4,D.sl a5] L35):rn ⟨18,0,0⟩ [D.sl a0,D.int a1,D.int a2,D.str a3,D.sl a4,D.sl a5]=some (0,[D.int a1,D.int a2,D.str a3,D.sl a0,D.sl a4,D.sl a5]):=by
 obtain ⟨x0,x1,x2,x3,x4,x5,hh,bx0,cx0,bx3,bx4,cx4,bx5,cx5⟩:=wl35 h;simp only [J5.injEq,D.int.injEq,D.bool.injEq,D.str.injEq,D.sl.injEq,and_true] at hh;obtain ⟨rfl,rfl,rfl,rfl,rfl,rfl⟩:=hh;show rn ⟨18,0,0⟩ _=_
 rw [e18_0_0];simp only [szL,D.sz] at hz;have e0:=c83 (rs:=a0) (by omega) cx0
 skip
 have w1:WL H [D.int a1,D.int a2,D.str a3,D.sl a4] L32:=WL.part 1 4 h;have e1:=c84 _ a1 a2 a3 a4 (F9 _) (by simp only [szL,D.sz]; omega) w1
 skip
 have e5:=c85 (rs:=a5) (by omega) cx5
 skip
 all_goals simp only [e0,e1,e5,B5,nth,B7,B8,D.I,D.S,D.L,D.B]
end Go.Q.S
end
section
namespace Go.Q.S
open Go Go.Q Go.Proofs
theorem rCloneS (xs:Rows) (h:xs.length<=274877906944):rn ⟨258,0,0⟩ [.sl xs]=some (0,[.sl xs]):=by
 rw [e258_0_0];have hb:G9 (([]:Rows).length+xs.length) M63=true:=E9 (by unfold M63; simpa using h)
 rw [hb];cases xs with
 | nil=>simp [both]
 | cons x xs=>rfl
theorem rCloneI (xs:Rows) (h:xs.length<=274877906944):rn ⟨255,0,0⟩ [.sl xs]=some (0,[.sl xs]):=by
 rw [e255_0_0];have hb:G9 (([]:Rows).length+xs.length) M63=true:=E9 (by unfold M63; simpa using h)
 rw [hb];cases xs with
 | nil=>simp [both]
 | cons x xs=>rfl
theorem rSort (ls:List D):rn ⟨312,0,0⟩ ls=sortG 0 ls:=by rw [rn_eq]; rfl
theorem rComp (ls:List D):rn ⟨313,0,0⟩ ls=compG 0 ls:=by rw [rn_eq]; rfl
theorem r246 (l:List ByteArray) (h:l.length<=274877906944):rn ⟨246,0,0⟩ [.sl (l.map sRow)]=some (0,[.sl ((srtN l).map sRow)]):=by
 rw [e246_0_0,rCloneS _ (by simpa using h)]
 simp only [nth0,nth1,nth2,nth3,nth4,nth5,nth6,nth7,nth8,nth9,nth10,nth11,nth12,nth13,nth14,nth15,nth16,nth17,nth18,nth19,nth20,nth21,nth22,nth23,nth24,nth25,dI,dB,dS,dL,B5];rw [rSort,sortG_eq 0 l (by omega)]
 simp only [nth0,nth1,nth2,nth3,nth4,nth5,nth6,nth7,nth8,nth9,nth10,nth11,nth12,nth13,nth14,nth15,nth16,nth17,nth18,nth19,nth20,nth21,nth22,nth23,nth24,nth25,dI,dB,dS,dL,B5];rw [rComp,compG_eq 0 _ (by simp; omega),compact_sort]
 simp only [nth0,nth1,nth2,nth3,nth4,nth5,nth6,nth7,nth8,nth9,nth10,nth11,nth12,nth13,nth14,nth15,nth16,nth17,nth18,nth19,nth20,nth21,nth22,nth23,nth24,nth25,dI,dB,dS,dL,B5];rw [rowS_map]; rfl
theorem r236 (l:List ByteArray) (h:l.length<=1073741824):rn ⟨236,0,0⟩ [.sl (l.map sRow)]=some (0,[.sl ((srtN l).map sRow)]):=by
 rw [e236_0_0,sRow_map];unfold srtN;generalize hks:l.map toK=ks;have hk:ks.length<=1073741824:=by rw [<- hks]; simpa using h
 have hin:∀ (i:Nat) (hi:i<ks.length) (acc:List Ky),acc.length<=1073741824->∀ n a,a+n=acc.length->rn ⟨236,0,3⟩ [.sl (ks.map rowS),.int (i:Int),.int (a:Int),.sl (acc.map rowS)] =
  some (0,[.sl (ks.map rowS),.int (i:Int),.int ((a+ldK ks[i] (acc.drop a):Nat):Int),.sl (acc.map rowS)]):=by
  intro i hi acc hacc n;induction n with
  | zero =>
   intro a ha;have:a=acc.length:=by omega
   subst this;rw [e236_0_3];simp [ldK]
  | succ n ih =>
   intro a ha;have hlt:a<acc.length:=by omega
   rw [e236_0_3,ldK_drop _ _ _ hlt];simp only [B9,rowAt_map hi,rowAt_map hlt,B6,inbN,hi,hlt,C3,H3,H1,nth0,nth1,nth2,nth3,nth4,nth5,nth6,nth7,nth8,nth9,nth10,nth11,nth12,nth13,nth14,nth15,nth16,nth17,nth18,nth19,nth20,nth21,nth22,nth23,nth24,nth25,dI,dB,dS,dL,B5,rowS_sRow,sRow,ltB_ofK,wrap_succ hlt (by unfold maxLen; omega)]
   by_cases hx:acc[a]<ks[i]
   · rw [H5 hx,H7 hx,H1,ih (a+1) (by omega)]
     have e:a+1+ldK ks[i] (acc.drop (a+1))=a+(ldK ks[i] (acc.drop (a+1))+1):=by omega
     rw [e]
   · rw [H6 hx,H8 hx,H2]; rfl
 have hout:∀ n (i:Nat) (acc:List Ky),i+n=ks.length->acc.length<=i->rn ⟨236,0,1⟩ [.sl (ks.map rowS),.int (i:Int),.sl (acc.map rowS)]=some (0,[.sl ((srtK (ks.drop i) acc).map rowS)]):=by
  intro n;induction n with
  | zero =>
   intro i acc hi ha;have:i=ks.length:=by omega
   subst this;rw [e236_0_1];simp [srtK]
  | succ n ih =>
   intro i acc hi ha;have hlt:i<ks.length:=by omega
   have hI:=hin i hlt acc (by omega) acc.length 0 (by omega)
   rw [D1,E8] at hI;rw [e236_0_1];have hc:ldK ks[i] acc<=acc.length:=ldK_le _ _;have hz:((0:Nat):Int)=0:=rfl;rw [hz] at hI;rw [hI,C2 hlt];have hins:=insK_ld ks[i] acc;have hil:(insK ks[i] acc).length<=i+1:=by
    rw [hins]; split
    · omega
    · simp; omega
   have ih':=ih (i+1) (insK ks[i] acc) (by omega) hil
   simp only [B6,C3,hlt,H3,H1,nth0,nth1,nth2,nth3,nth4,nth5,nth6,nth7,nth8,nth9,nth10,nth11,nth12,nth13,nth14,nth15,nth16,nth17,nth18,nth19,nth20,nth21,nth22,nth23,nth24,nth25,dI,dB,dS,dL,B5,D7,B9,wrap_succ hlt (by unfold maxLen; omega),srtK] at ih' ⊢
   rw [<- ih'];generalize hcc:ldK ks[i] acc=c at hc hins ⊢;have h0:(0:Int)<=(c:Int):=by omega
   have h3:(c:Int)<=(acc.length:Int):=by omega
   have hb2:G9 (([]:Rows).length+(List.drop (P8 0) (List.take c (acc.map rowS))).length) M63=true:=E9 (by unfold M63; simp; omega)
   have hb3:∀ z:Rows,z.length=1->G9 (([]++List.drop (P8 0) (List.take c (acc.map rowS)):Rows).length+z.length) M63=true:=fun z hz=>E9 (by unfold M63; simp [hz]; omega)
   have hb4:∀ z:Rows,z.length=1->G9 ((([]++List.drop (P8 0) (List.take c (acc.map rowS)):Rows)++z).length+(List.drop c (List.take acc.length (acc.map rowS))).length) M63=true:=fun z hz=>E9 (by unfold M63; simp [hz]; omega)
   have hfin:([]++List.drop (P8 0) (List.take c (acc.map rowS)):Rows)++[rowS ks[i]]++List.drop c (List.take acc.length (acc.map rowS))=(List.take c acc++[ks[i]]++List.drop c acc).map rowS:=by
    simp [List.map_take,List.map_drop,List.take_of_length_le]
   simp only [rowAt_map hlt,inbN,hlt,H3,H1];by_cases h1:c<acc.length
   · simp only [H7 h1,H1,rowAt_map h1,nth0,nth1,nth2,nth3,nth4,nth5,nth6,nth7,nth8,nth9,nth10,nth11,nth12,nth13,nth14,nth15,nth16,nth17,nth18,nth19,nth20,nth21,nth22,nth23,nth24,nth25,dI,dB,dS,dL,B5,rowS_sRow,sRow,ofK_inj]
     rw [E7 h1] at hins;by_cases h2:acc[c]=ks[i]
     · rw [H7 h2,H1,hins,H5 (by rw [h2])]
     · rw [H8 h2,H2,hins,H6 (by simpa using h2)]
       simp only [h0,h3,Int.le_refl,H3,N8,H1];rw [hb2,hb3 _ rfl,hb4 _ rfl];simp only [H1];rw [<- hfin]; rfl
   · simp only [H8 h1,H2]
     rw [List.getElem?_eq_none (by omega)] at hins
     rw [hins,H6 (by simp)]
     simp only [h0,h3,Int.le_refl,H3,N8,H1];rw [hb2];simp only [H1,rowAt_map hlt,nth0,nth1,nth2,nth3,nth4,nth5,nth6,nth7,nth8,nth9,nth10,nth11,nth12,nth13,nth14,nth15,nth16,nth17,nth18,nth19,nth20,nth21,nth22,nth23,nth24,nth25,dI,dB,dS,dL,B5,rowS_sRow,sRow];rw [hb3 _ rfl,hb4 _ rfl];simp only [H1];rw [<- hfin]; rfl
 have:=hout ks.length 0 [] (by omega) (K4 _)
 simp only [C4,E0,D1] at this;rw [this];simp only [nth0,nth1,nth2,nth3,nth4,nth5,nth6,nth7,nth8,nth9,nth10,nth11,nth12,nth13,nth14,nth15,nth16,nth17,nth18,nth19,nth20,nth21,nth22,nth23,nth24,nth25,dI,dB,dS,dL,B5,D7,H1];rw [rowS_map]
end Go.Q.S
end
section
namespace Go.Q.S
open Go Go.Q Go.Proofs
theorem r259:∀ t:Tm,Small t->rn ⟨259,0,0⟩ [.int t.k,.int t.n,.str t.s,.sl (t.as.map Tm.row)]=some (0,[.int t.k,.int t.n,.str t.s,.sl (t.as.map Tm.row)]):=Tm.ind fun t ih h=>by
 have hl:=h.len;show rn _ _=_
 rw [e259_0_0];have hf:=map_loop (F:=fun i acc=>rn ⟨259,0,1⟩ [.sl (t.as.map Tm.row),.int ((t.as.map Tm.row)).length,.int (i:Int),.int 0,.int 0,.str (⟨#[]⟩:ByteArray),.int t.k,.int t.n,.str t.s,.sl [],.sl acc]) (xs:=t.as) Tm.row (K:=fun acc=>some (0,[.int (0),.int (0),.str ((⟨#[]⟩:ByteArray)),.int (t.k),.int (t.n),.str (t.s),.sl ([]),.sl (acc)])) (fun i hi acc ha=>?_) (fun acc=>?_)
 · simp only [C4] at hf; rw [hf]; rfl
 · have hc:=ih _ (C0 hi) (h.sub (C0 hi))
   rw [e259_0_1];simp only [B9,rowAt_map hi,Tm.row_eq,B6,inbN,hi,C3,H3,H1,nth,B7,B8,D.I,D.S,D.L,D.B,wrap_succ hi (by unfold maxLen; omega),hc,B5,C8,D6]
   rw [show G9 (acc.length+(0+1)) M63=true from E9 (by unfold M63; omega)]
   rfl
 · skip
   rw [e259_0_1];simp
theorem r188:∀ t:Tm,Small t->rn ⟨188,0,0⟩ [.int t.k,.int t.n,.str t.s,.sl (t.as.map Tm.row)]=some (0,[.int t.k,.int t.n,.str t.s,.sl (t.as.map Tm.row)]):=Tm.ind fun t ih h=>by
 have hl:=h.len;show rn _ _=_
 rw [e188_0_0];have hf:=map_loop (F:=fun i acc=>rn ⟨188,0,1⟩ [.int (i:Int),.int t.k,.int t.n,.str t.s,.sl (t.as.map Tm.row),.int 0,.int 0,.str (⟨#[]⟩:ByteArray),.sl acc,.sl []]) (xs:=t.as) Tm.row (K:=fun acc=>some (0,[.int (t.k),.int (t.n),.str (t.s),.sl ((t.as.map Tm.row)),.int (0),.int (0),.str ((⟨#[]⟩:ByteArray)),.sl (acc),.sl ([])])) (fun i hi acc ha=>?_) (fun acc=>?_)
 · simp only [C4] at hf; rw [hf]; rfl
 · have hc:=ih _ (C0 hi) (h.sub (C0 hi))
   rw [e188_0_1];simp only [B9,rowAt_map hi,Tm.row_eq,B6,inbN,hi,C3,H3,H1,nth,B7,B8,D.I,D.S,D.L,D.B,wrap_succ hi (by unfold maxLen; omega),hc,B5,C8,D6]
   rw [show G9 (acc.length+(0+1)) M63=true from E9 (by unfold M63; omega)]
   rfl
 · skip
   rw [e188_0_1];simp
theorem r274 (t:Tm):rn ⟨274,0,0⟩ [.int t.k,.int t.n,.str t.s,.sl (t.as.map Tm.row)]=some (0,[.bool (isW t)]):=by
 show rn _ _=_
 rw [e274_0_0];simp only [B6];unfold isW;have e:decide ((t.as.length:Int)=0)=decide (t.as.length=0):=by simp
 rw [e];cases decide (t.k=3) <;> cases decide (0<=t.n) <;> cases decide (t.n<4) <;> cases decide (t.s=⟨#[]⟩) <;> cases decide (t.as.length=0) <;> rfl
theorem r94 (a b c:Int):rn ⟨94,0,0⟩ [.int a,.int b,.int c]=some (0,[.bool (decide (b<=a)&&decide (a<=c))]):=by
 show rn _ _=_
 rw [e94_0_0];cases decide (b<=a) <;> rfl
theorem r266 (t:Tm):rn ⟨266,0,0⟩ [.int t.k,.int t.n,.str t.s,.sl (t.as.map Tm.row)]=some (0,[.bool (isW t)]):=by
 show rn _ _=_
 rw [e266_0_0];have hc:=r94 t.n 0 3;simp only [hc,B5,nth,B7,B8,D.I,D.S,D.L,D.B,B6];unfold isW;have e:decide ((t.as.length:Int)=0)=decide (t.as.length=0):=by simp
 have e2:decide (t.n<=3)=decide (t.n<4):=decide_eq_decide.2 (by omega)
 rw [e,e2];cases decide (t.k=3) <;> cases decide (0<=t.n) <;> cases decide (t.n<4) <;> cases decide (t.s=⟨#[]⟩) <;> cases decide (t.as.length=0) <;> rfl
theorem r244 (s:ByteArray):rn ⟨244,0,0⟩ [.str s]=some (0,[.bool (isB s)]):=by
 show rn _ _=_
 rw [e244_0_0];unfold isB plusS minusS timesS;cases decide (s=(⟨#[112,108,117,115]⟩:ByteArray)) <;> cases decide (s=(⟨#[109,105,110,117,115]⟩:ByteArray)) <;> cases decide (s=(⟨#[116,105,109,101,115]⟩:ByteArray)) <;> rfl
theorem r265 (s:ByteArray):rn ⟨265,0,0⟩ [.str s]=some (0,[.bool (isB s)]):=by
 show rn _ _=_
 rw [e265_0_0];unfold isB plusS minusS timesS;cases decide (s=(⟨#[112,108,117,115]⟩:ByteArray)) <;> cases decide (s=(⟨#[109,105,110,117,115]⟩:ByteArray)) <;> cases decide (s=(⟨#[116,105,109,101,115]⟩:ByteArray)) <;> rfl
theorem r275 (s:ByteArray) {a b:Int} (ha:0<=a) (ha':a<4) (hb:0<=b) (hb':b<4):rn ⟨275,0,0⟩ [.str s,.int a,.int b]=some (0,[.int (cmp s a b)]):=by
 show rn _ _=_
 rw [e275_0_0];unfold cmp plusS minusS;have h4:(!decide ((4:Int)=0))=true:=rfl;simp only [h4,H1];obtain rfl | rfl | rfl | rfl:a=0\/a=1\/a=2\/a=3:=by omega
 all_goals
  obtain rfl | rfl | rfl | rfl:b=0\/b=1\/b=2\/b=3:=by omega
  all_goals
   by_cases h1:s=(⟨#[112,108,117,115]⟩:ByteArray)
   · simp only [h1,H3,H1,if_true]; rfl
   · by_cases h2:s=(⟨#[109,105,110,117,115]⟩:ByteArray)
     · simp only [h1,h2,H3,H4,H1,H2,if_true,if_false]; rfl
     · simp only [h1,h2,H4,H2,if_false]; rfl
theorem r268 (s:ByteArray) {a b:Int} (ha:0<=a) (ha':a<4) (hb:0<=b) (hb':b<4):rn ⟨268,0,0⟩ [.str s,.int a,.int b]=some (0,[.int (cmp s a b)]):=by
 show rn _ _=_
 rw [e268_0_0];unfold cmp plusS minusS;have h4:(!decide ((4:Int)=0))=true:=rfl;simp only [h4,H1];obtain rfl | rfl | rfl | rfl:a=0\/a=1\/a=2\/a=3:=by omega
 all_goals
  obtain rfl | rfl | rfl | rfl:b=0\/b=1\/b=2\/b=3:=by omega
  all_goals
   by_cases h1:s=(⟨#[112,108,117,115]⟩:ByteArray)
   · simp only [h1,H3,H1,if_true]; rfl
   · by_cases h2:s=(⟨#[109,105,110,117,115]⟩:ByteArray)
     · simp only [h1,h2,H3,H4,H1,H2,if_true,if_false]; rfl
     · simp only [h1,h2,H4,H2,if_false]; rfl
theorem r276 (l:List Bnd) (hl:l.length<=1048576) (s:ByteArray):rn ⟨276,0,0⟩ [.sl (l.map Bnd.row),.str s]=match bnd l s with
 | some t=>some (0,[.int t.k,.int t.n,.str t.s,.sl (t.as.map Tm.row),.bool true])
 | none=>some (0,[.int 0,.int 0,.str ⟨#[]⟩,.sl [],.bool false]):=by
 show rn _ _=_
 rw [e276_0_0];have hf:=find_loop (F:=fun i=>rn ⟨276,0,1⟩ [.str s,.sl (l.map Bnd.row),.int ((l.map Bnd.row)).length,.int (i:Int),.int 0,.int 0,.str (⟨#[]⟩:ByteArray),.sl []]) (xs:=l) (p:=fun b=>decide (b.1=s)) (A:=some (0,[.int (0),.int (0),.str ((⟨#[]⟩:ByteArray)),.sl ([])])) (B:=fun i b=>some (1,[.int b.2.k,.int b.2.n,.str b.2.s,.sl (b.2.as.map Tm.row)])) (fun i hi=>?_) ?_
 · simp only [C4] at hf
   rw [bnd_find];rcases hf with ⟨h1,h2⟩|⟨i,hi,h1,h2⟩
   · rw [h1,h2]; rfl
   · rw [h1,h2]; rfl
 · skip
   rw [e276_0_1];simp only [B9,rowAt_map hi,bd_row,B6,inbN,hi,C3,H3,H1,nth,B7,B8,D.I,D.S,D.L,D.B,wrap_succ hi (by unfold maxLen; omega)]
 · skip
   rw [e276_0_1];simp
theorem r318 (l:List Bnd) (hl:l.length<=1048576) (s:ByteArray):(bnd l s=none/\rn ⟨318,0,0⟩ [.sl (l.map Bnd.row),.str s]=some (0,[.int (-1)]))\/∃ i,∃ hi:i<l.length,bnd l s=some l[i].2/\rn ⟨318,0,0⟩ [.sl (l.map Bnd.row),.str s]=some (0,[.int (i:Int)]):=by
 have hf:=find_loop (F:=fun i=>rn ⟨318,0,1⟩ [.sl (l.map Bnd.row),.str s,.int (i:Int)]) (xs:=l) (p:=fun b=>decide (b.1=s)) (A:=some (0,[])) (B:=fun i b=>some (1,[.int (i:Int)])) (fun i hi=>?_) ?_
 · simp only [C4] at hf
   rw [bnd_find];rcases hf with ⟨h1,h2⟩|⟨i,hi,h1,h2⟩
   · left
     refine ⟨by rw [h1]; rfl,?_⟩
     show rn _ _=_
     rw [e318_0_0];rw [h2]; rfl
   · right
     refine ⟨i,hi,by rw [h1]; rfl,?_⟩
     show rn _ _=_
     rw [e318_0_0];rw [h2]; rfl
 · skip
   rw [e318_0_1];simp only [B9,rowAt_map hi,bd_row,B6,inbN,hi,C3,H3,H1,nth,B7,B8,D.I,D.S,D.L,D.B,wrap_succ hi (by unfold maxLen; omega)]
 · skip
   rw [e318_0_1];simp
theorem r269 (l:List Bnd) (hl:l.length<=1048576) (hs:∀ b∈l,Small b.2) (s:ByteArray):rn ⟨269,0,0⟩ [.sl (l.map Bnd.row),.str s]=match bnd l s with
 | some t=>some (0,[.int t.k,.int t.n,.str t.s,.bool true,.sl (t.as.map Tm.row)])
 | none=>some (0,[.int 0,.int 0,.str ⟨#[]⟩,.bool false,.sl []]):=by
 show rn _ _=_
 rw [e269_0_0];rcases r318 l hl s with ⟨h1,h2⟩|⟨i,hi,h1,h2⟩
 · skip
   rw [h1,h2]; rfl
 · skip
   have hc:=r188 l[i].2 (hs _ (C0 hi));rw [h1,h2];have hn:¬((i:Int)<0):=by omega
   simp only [B5,nth,B7,B8,D.I,D.S,D.L,D.B,B9,rowAt_map hi,bd_row,B6,inbN,hi,hn,H3,H4,H1,H2,hc]
theorem r198 (l:List Bnd) (hl:l.length<=1048576) (hs:∀ b∈l,Small b.2):∀ t:Tm,Small t->rn ⟨198,0,0⟩ [.sl (l.map Bnd.row),.int t.k,.int t.n,.str t.s,.sl (t.as.map Tm.row)]=some (0,[.int (aS l t).k,.int (aS l t).n,.str (aS l t).s,.sl ((aS l t).as.map Tm.row)]):=Tm.ind fun t ih h=>by
 have hlt:=h.len;show rn _ _=_
 rw [e198_0_0];have hf:=map_loop (F:=fun i acc=>rn ⟨198,0,1⟩ [.sl (l.map Bnd.row),.sl (t.as.map Tm.row),.int ((t.as.map Tm.row)).length,.int (i:Int),.int 0,.int 0,.str (⟨#[]⟩:ByteArray),.int t.k,.int t.n,.str t.s,.sl [],.sl acc]) (xs:=t.as) (fun x=>(aS l x).row) (K:=fun acc=>some (0,[.int (0),.int (0),.str ((⟨#[]⟩:ByteArray)),.int (t.k),.int (t.n),.str (t.s),.sl ([]),.sl (acc)])) (fun i hi acc ha=>?_) (fun acc=>?_)
 · simp only [C4] at hf
   have hb:=r276 l hl t.s;rw [aS_eq];by_cases hk:t.k=1
   · rw [H5 hk]
     cases hq:bnd l t.s with
     | none =>
      rw [hq] at hb;simp only at hb;simp only [H7 hk,H1,hb,B5,nth,B7,B8,D.I,D.S,D.L,D.B,H2,hf];simp [Tm.k,Tm.n,Tm.s,Tm.as,Function.comp_def]
     | some u =>
      rw [hq] at hb;simp only at hb;obtain ⟨b,hbm,rfl⟩:=bnd_mem hq;have hcp:=r259 b.2 (hs b hbm);simp only [H7 hk,H1,hb,B5,nth,B7,B8,D.I,D.S,D.L,D.B,hcp]
   · rw [H6 hk]
     simp only [H8 hk,H2,hf,B5,nth,B7,B8,D.I,D.S,D.L,D.B];simp [Tm.k,Tm.n,Tm.s,Tm.as,Function.comp_def]
 · have hc:=ih _ (C0 hi) (h.sub (C0 hi))
   rw [e198_0_1];simp only [B9,rowAt_map hi,Tm.row_eq,B6,inbN,hi,C3,H3,H1,nth,B7,B8,D.I,D.S,D.L,D.B,wrap_succ hi (by unfold maxLen; omega),hc,B5,C8,D6]
   rw [show G9 (acc.length+(0+1)) M63=true from E9 (by unfold M63; omega)]
   rfl
 · skip
   rw [e198_0_1];simp
theorem r185 (l:List Bnd) (hl:l.length<=1048576) (hs:∀ b∈l,Small b.2):∀ t:Tm,Small t->rn ⟨185,0,0⟩ [.sl (l.map Bnd.row),.int t.k,.int t.n,.str t.s,.sl (t.as.map Tm.row)]=some (0,[.int (aS l t).k,.int (aS l t).n,.str (aS l t).s,.sl ((aS l t).as.map Tm.row)]):=Tm.ind fun t ih h=>by
 have hlt:=h.len;show rn _ _=_
 rw [e185_0_0];have hf:=map_loop (F:=fun i acc=>rn ⟨185,0,1⟩ [.sl (l.map Bnd.row),.int (i:Int),.int t.k,.int t.n,.str t.s,.sl (t.as.map Tm.row),.int 0,.int 0,.str (⟨#[]⟩:ByteArray),.int t.k,.int t.n,.str t.s,.sl [],.sl acc]) (xs:=t.as) (fun x=>(aS l x).row) (K:=fun acc=>some (0,[.int (0),.int (0),.str ((⟨#[]⟩:ByteArray)),.int (t.k),.int (t.n),.str (t.s),.sl ([]),.sl (acc)])) (fun i hi acc ha=>?_) (fun acc=>?_)
 · simp only [C4] at hf
   have hb:=r269 l hl hs t.s;rw [aS_eq];by_cases hk:t.k=1
   · rw [H5 hk]
     cases hq:bnd l t.s with
     | none =>
      rw [hq] at hb;simp only at hb;simp only [H7 hk,H1,hb,B5,nth,B7,B8,D.I,D.S,D.L,D.B,H2,hf];simp [Tm.k,Tm.n,Tm.s,Tm.as,Function.comp_def]
     | some u =>
      rw [hq] at hb;simp only at hb;obtain ⟨b,hbm,rfl⟩:=bnd_mem hq;have hcp:=r259 b.2 (hs b hbm);simp only [H7 hk,H1,hb,B5,nth,B7,B8,D.I,D.S,D.L,D.B,hcp]
   · rw [H6 hk]
     simp only [H8 hk,H2,hf,B5,nth,B7,B8,D.I,D.S,D.L,D.B];simp [Tm.k,Tm.n,Tm.s,Tm.as,Function.comp_def]
 · have hc:=ih _ (C0 hi) (h.sub (C0 hi))
   rw [e185_0_1];simp only [B9,rowAt_map hi,Tm.row_eq,B6,inbN,hi,C3,H3,H1,nth,B7,B8,D.I,D.S,D.L,D.B,wrap_succ hi (by unfold maxLen; omega),hc,B5,C8,D6]
   rw [show G9 (acc.length+(0+1)) M63=true from E9 (by unfold M63; omega)]
   rfl
 · skip
   rw [e185_0_1];simp
theorem r197:∀ t:Tm,Small t->rn ⟨197,0,0⟩ [.int t.k,.int t.n,.str t.s,.sl (t.as.map Tm.row)]=some (0,[.int (rW t).k,.int (rW t).n,.str (rW t).s,.sl ((rW t).as.map Tm.row)]):=Tm.ind fun t ih h=>by
 have hlt:=h.len;show rn _ _=_
 rw [e197_0_0];have hf:=map_loop (F:=fun i acc=>rn ⟨197,0,1⟩ [.sl (t.as.map Tm.row),.int ((t.as.map Tm.row)).length,.int (i:Int),.int 0,.int 0,.str (⟨#[]⟩:ByteArray),.int t.k,.int t.n,.str t.s,.sl [],.sl acc]) (xs:=t.as) (fun x=>(rW x).row) (K:=fun acc=>some (0,[.int (0),.int (0),.str ((⟨#[]⟩:ByteArray)),.int (t.k),.int (t.n),.str (t.s),.sl ([]),.sl (acc)])) (fun i hi acc ha=>?_) (fun acc=>?_)
 · simp only [C4] at hf
   have e:t.as.map (fun x=>(rW x).row)=(t.as.map rW).map Tm.row:=by simp [Function.comp_def]
   rw [e] at hf;rw [rW_eq];generalize t.as.map rW=us at hf ⊢;have hB:=r244 t.s;rw [hf];simp only [B5,D7,H1,nth,B7,B8,D.I,D.S,D.L,D.B,hB,B6];by_cases h1:t.k=2
   case neg =>
    simp only [H8 h1,H2];unfold rW1;split
    · rw [H6 (fun h=>h1 h.1)]; rfl
    · rfl
   by_cases h2:t.n=0
   case neg =>
    simp only [H7 h1,H8 h2,H1,H2];unfold rW1;split
    · rw [H6 (fun h=>h2 h.2.1)]; rfl
    · rfl
   simp only [H7 h1,H7 h2,H1];cases h3:isB t.s with
   | false =>
    simp only [H2];unfold rW1;split
    · rw [H6 (fun h=>by rw [h3] at h; exact absurd h.2.2.1 (by decide))]; rfl
    · rfl
   | true =>
    simp only [H1]
    match us with
    | []=>rfl
    | [x]=>rfl
    | x::y::z::zs =>
     have:¬(((x::y::z::zs).length:Int)=2):=by simp only [C8]; omega
     simp only [H8 this,H2];rfl
    | [x,y] =>
     have hx:=r274 x;have hy:=r274 y;have l2:decide ((([x,y]:List Tm).length:Int)=2)=true:=rfl;have i0:inb 0 ([x,y]:List Tm).length=true:=rfl;have i1:inb 1 ([x,y]:List Tm).length=true:=rfl;have r0:rowAt (([x,y]:List Tm).map Tm.row) (P8 0)=x.row:=rfl;have r1:rowAt (([x,y]:List Tm).map Tm.row) (P8 1)=y.row:=rfl;simp only [l2,i0,i1,r0,r1,H1,Tm.row_eq,nth,B7,B8,D.I,D.S,D.L,D.B,hx,hy,B5];unfold rW1;simp only;cases h4:isW x with
     | false=>simp only [H2]; rw [H6 (fun h=>by simp at h)]; rfl
     | true =>
      cases h5:isW y with
      | false=>simp only [H1,H2]; rw [H6 (fun h=>by simp at h)]; rfl
      | true =>
       have b1:=h4;have b2:=h5;simp only [isW,C1,decide_eq_true_eq] at b1 b2;have hcm:=r275 t.s b1.2.1 b1.2.2.1 b2.2.1 b2.2.2.1;simp only [H1,hcm,B5,nth,B7,B8,D.I,D.S,D.L,D.B];rw [H5 ⟨h1,h2,h3,trivial,trivial⟩];rfl
 · have hc:=ih _ (C0 hi) (h.sub (C0 hi))
   rw [e197_0_1];simp only [B9,rowAt_map hi,Tm.row_eq,B6,inbN,hi,C3,H3,H1,nth,B7,B8,D.I,D.S,D.L,D.B,wrap_succ hi (by unfold maxLen; omega),hc,B5,C8,D6]
   rw [show G9 (acc.length+(0+1)) M63=true from E9 (by unfold M63; omega)]
   rfl
 · skip
   rw [e197_0_1];simp
theorem r267 (n:Int):rn ⟨267,0,0⟩ [.int n]=some (0,[.int 3,.int n,.str ⟨#[]⟩,.sl []]):=by
 show rn _ _=_
 rw [e267_0_0]
theorem r184:∀ t:Tm,Small t->rn ⟨184,0,0⟩ [.int t.k,.int t.n,.str t.s,.sl (t.as.map Tm.row)]=some (0,[.int (rW t).k,.int (rW t).n,.str (rW t).s,.sl ((rW t).as.map Tm.row)]):=Tm.ind fun t ih h=>by
 have hlt:=h.len;show rn _ _=_
 rw [e184_0_0];have hf:=map_loop (F:=fun i acc=>rn ⟨184,0,1⟩ [.int (i:Int),.int t.k,.int t.n,.str t.s,.sl (t.as.map Tm.row),.int 0,.int 0,.str (⟨#[]⟩:ByteArray),.int t.k,.int t.n,.str t.s,.sl [],.sl acc]) (xs:=t.as) (fun x=>(rW x).row) (K:=fun acc=>some (0,[.int (t.k),.int (t.n),.str (t.s),.sl ((t.as.map Tm.row)),.int (0),.int (0),.str ((⟨#[]⟩:ByteArray)),.int (t.k),.int (t.n),.str (t.s),.sl ([]),.sl (acc)])) (fun i hi acc ha=>?_) (fun acc=>?_)
 · simp only [C4] at hf
   have e:t.as.map (fun x=>(rW x).row)=(t.as.map rW).map Tm.row:=by simp [Function.comp_def]
   rw [e] at hf;rw [rW_eq];generalize t.as.map rW=us at hf ⊢;have hB:=r265 t.s;rw [hf];simp only [B5,D7,H1,nth,B7,B8,D.I,D.S,D.L,D.B,hB,B6];by_cases h1:t.k=2
   case neg =>
    simp only [H8 h1,H2];unfold rW1;split
    · rw [H6 (fun h=>h1 h.1)]; rfl
    · rfl
   by_cases h2:t.n=0
   case neg =>
    simp only [H7 h1,H8 h2,H1,H2];unfold rW1;split
    · rw [H6 (fun h=>h2 h.2.1)]; rfl
    · rfl
   simp only [H7 h1,H7 h2,H1];cases h3:isB t.s with
   | false =>
    simp only [H2];unfold rW1;split
    · rw [H6 (fun h=>by rw [h3] at h; exact absurd h.2.2.1 (by decide))]; rfl
    · rfl
   | true =>
    simp only [H1]
    match us with
    | []=>rfl
    | [x]=>rfl
    | x::y::z::zs =>
     have:¬(((x::y::z::zs).length:Int)=2):=by simp only [C8]; omega
     simp only [H8 this,H2];rfl
    | [x,y] =>
     have hx:=r266 x;have hy:=r266 y;have l2:decide ((([x,y]:List Tm).length:Int)=2)=true:=rfl;have i0:inb 0 ([x,y]:List Tm).length=true:=rfl;have i1:inb 1 ([x,y]:List Tm).length=true:=rfl;have r0:rowAt (([x,y]:List Tm).map Tm.row) (P8 0)=x.row:=rfl;have r1:rowAt (([x,y]:List Tm).map Tm.row) (P8 1)=y.row:=rfl;simp only [l2,i0,i1,r0,r1,H1,Tm.row_eq,nth,B7,B8,D.I,D.S,D.L,D.B,hx,hy,B5];unfold rW1;simp only;cases h4:isW x with
     | false=>simp only [H2]; rw [H6 (fun h=>by simp at h)]; rfl
     | true =>
      cases h5:isW y with
      | false=>simp only [H1,H2]; rw [H6 (fun h=>by simp at h)]; rfl
      | true =>
       have b1:=h4;have b2:=h5;simp only [isW,C1,decide_eq_true_eq] at b1 b2;have hcm:=r268 t.s b1.2.1 b1.2.2.1 b2.2.1 b2.2.2.1;have hwd:=r267 (cmp t.s x.n y.n);simp only [H1,hcm,B5,nth,B7,B8,D.I,D.S,D.L,D.B,hwd];rw [H5 ⟨h1,h2,h3,trivial,trivial⟩];rfl
 · have hc:=ih _ (C0 hi) (h.sub (C0 hi))
   rw [e184_0_1];simp only [B9,rowAt_map hi,Tm.row_eq,B6,inbN,hi,C3,H3,H1,nth,B7,B8,D.I,D.S,D.L,D.B,wrap_succ hi (by unfold maxLen; omega),hc,B5,C8,D6]
   rw [show G9 (acc.length+(0+1)) M63=true from E9 (by unfold M63; omega)]
   rfl
 · skip
   rw [e184_0_1];simp
theorem r253 (n:Nat):rn ⟨253,0,0⟩ [.int (n:Int)]=some (0,[.int (cnt4 n)]):=by
 show rn _ _=_
 rw [e253_0_0];have hn:¬((n:Int)<0):=by omega
 simp only [H8 hn,H2];have st:∀ x a:Int,0<x->rn ⟨253,0,1⟩ [.int x,.int a]=rn ⟨253,0,1⟩ [.int (IntKind.i64.wrap (x-1)),.int (IntKind.i64.wrap (a*4))]:=fun x a h=>by
  rw [e253_0_1];rw [H7 h]; rfl
 have fi:∀ a:Int,rn ⟨253,0,1⟩ [.int 0,.int a]=some (0,[.int a]):=fun a=>by
  rw [e253_0_1];rfl
 by_cases h3:3<n
 · rw [cnt4_big h3,H7 (by omega:(3:Int)<(n:Int))]; rfl
 · rw [H8 (by omega:¬(3:Int)<(n:Int))]
   simp only [H2];obtain rfl | rfl | rfl | rfl:n=0\/n=1\/n=2\/n=3:=by omega
   · show (rn ⟨253,0,1⟩ [.int 0,.int 1]).bind _=_
     rw [fi]; rfl
   · show (rn ⟨253,0,1⟩ [.int 1,.int 1]).bind _=_
     rw [st 1 1 (by decide)]
     show (rn ⟨253,0,1⟩ [.int 0,.int 4]).bind _=_
     rw [fi]; rfl
   · show (rn ⟨253,0,1⟩ [.int 2,.int 1]).bind _=_
     rw [st 2 1 (by decide)]
     show (rn ⟨253,0,1⟩ [.int 1,.int 4]).bind _=_
     rw [st 1 4 (by decide)]
     show (rn ⟨253,0,1⟩ [.int 0,.int 16]).bind _=_
     rw [fi]; rfl
   · show (rn ⟨253,0,1⟩ [.int 3,.int 1]).bind _=_
     rw [st 3 1 (by decide)]
     show (rn ⟨253,0,1⟩ [.int 2,.int 4]).bind _=_
     rw [st 2 4 (by decide)]
     show (rn ⟨253,0,1⟩ [.int 1,.int 16]).bind _=_
     rw [st 1 16 (by decide)]
     show (rn ⟨253,0,1⟩ [.int 0,.int 64]).bind _=_
     rw [fi]; rfl
theorem r155 (n:Nat):rn ⟨155,0,0⟩ [.int (n:Int)]=some (0,[.int (cnt4 n)]):=by
 show rn _ _=_
 rw [e155_0_0];have hi:=r94 (n:Int) 0 3;simp only [hi,B5,nth,B7,B8,D.I,D.S,D.L,D.B];rw [H7 (by omega:(0:Int)<=(n:Int)),F5]
 have st:∀ x a i:Int,i<x->rn ⟨155,0,1⟩ [.int x,.int a,.int i]=rn ⟨155,0,1⟩ [.int x,.int (IntKind.i64.wrap (a*4)),.int (IntKind.i64.wrap (i+1))]:=fun x a i h=>by
  rw [e155_0_1];rw [H7 h]; rfl
 have fi:∀ x a:Int,rn ⟨155,0,1⟩ [.int x,.int a,.int x]=some (0,[.int a]):=fun x a=>by
  rw [e155_0_1];rw [H8 (by omega)]; rfl
 by_cases h3:3<n
 · rw [cnt4_big h3,H8 (by omega:¬(n:Int)<=(3:Int))]; rfl
 · rw [H7 (by omega:(n:Int)<=(3:Int))]
   simp only [D9,H2];obtain rfl | rfl | rfl | rfl:n=0\/n=1\/n=2\/n=3:=by omega
   · show (rn ⟨155,0,1⟩ [.int 0,.int 1,.int 0]).bind _=_
     rw [fi]; rfl
   · show (rn ⟨155,0,1⟩ [.int 1,.int 1,.int 0]).bind _=_
     rw [st 1 1 0 (by decide)]
     show (rn ⟨155,0,1⟩ [.int 1,.int 4,.int 1]).bind _=_
     rw [fi]; rfl
   · show (rn ⟨155,0,1⟩ [.int 2,.int 1,.int 0]).bind _=_
     rw [st 2 1 0 (by decide)]
     show (rn ⟨155,0,1⟩ [.int 2,.int 4,.int 1]).bind _=_
     rw [st 2 4 1 (by decide)]
     show (rn ⟨155,0,1⟩ [.int 2,.int 16,.int 2]).bind _=_
     rw [fi]; rfl
   · show (rn ⟨155,0,1⟩ [.int 3,.int 1,.int 0]).bind _=_
     rw [st 3 1 0 (by decide)]
     show (rn ⟨155,0,1⟩ [.int 3,.int 4,.int 1]).bind _=_
     rw [st 3 4 1 (by decide)]
     show (rn ⟨155,0,1⟩ [.int 3,.int 16,.int 2]).bind _=_
     rw [st 3 16 2 (by decide)]
     show (rn ⟨155,0,1⟩ [.int 3,.int 64,.int 3]).bind _=_
     rw [fi]; rfl
theorem wcnt (n:Nat) (c:Int):(decide (0<=c)&&decide (c<=IntKind.i64.wrap (cnt4 n-1)))=isC n c:=by
 have h:=cnt4_le n;rw [IntWalk.i64_in _ (by omega)]
 unfold isC;have:decide (c<=cnt4 n-1)=decide (c<cnt4 n):=decide_eq_decide.2 (by omega)
 rw [this]
theorem r169 (n:Nat) (c:Int):rn ⟨169,0,0⟩ [.int (n:Int),.int c]=some (0,[.bool (isC n c)]):=by
 show rn _ _=_
 rw [e169_0_0];have hc:=r253 n;simp only [hc,B5,nth,B7,B8,D.I,D.S,D.L,D.B];unfold isC;cases decide (0<=c) <;> rfl
theorem rv0 (a b c:Int):rn ⟨273,1,0⟩ [.sl []]=some (0,[.sl []]):=by
 show rn _ _=_
 rw [e273_1_0];show (rn ⟨273,1,1⟩ [.int 0,.int (-1),.sl []]).bind _=_
 rw [e273_1_1];rfl
theorem rv1 (a b c:Int):rn ⟨273,1,0⟩ [.sl [[D.int a]]]=some (0,[.sl [[D.int a]]]):=by
 show rn _ _=_
 rw [e273_1_0];show (rn ⟨273,1,1⟩ [.int 0,.int (0),.sl [[D.int a]]]).bind _=_
 rw [e273_1_1];rfl
theorem rv2 (a b c:Int):rn ⟨273,1,0⟩ [.sl [[D.int a],[D.int b]]]=some (0,[.sl [[D.int b],[D.int a]]]):=by
 show rn _ _=_
 rw [e273_1_0];show (rn ⟨273,1,1⟩ [.int 0,.int (1),.sl [[D.int a],[D.int b]]]).bind _=_
 rw [e273_1_1];show (rn ⟨273,1,1⟩ [.int 1,.int 0,.sl [[D.int b],[D.int a]]]).bind _=_
 rw [e273_1_1];rfl
theorem rv3 (a b c:Int):rn ⟨273,1,0⟩ [.sl [[D.int a],[D.int b],[D.int c]]]=some (0,[.sl [[D.int c],[D.int b],[D.int a]]]):=by
 show rn _ _=_
 rw [e273_1_0];show (rn ⟨273,1,1⟩ [.int 0,.int (2),.sl [[D.int a],[D.int b],[D.int c]]]).bind _=_
 rw [e273_1_1];show (rn ⟨273,1,1⟩ [.int 1,.int 1,.sl [[D.int c],[D.int b],[D.int a]]]).bind _=_
 rw [e273_1_1];rfl
theorem r196 (n:Nat) (c:Int):rn ⟨196,0,0⟩ [.int (n:Int),.int c]=some (0,[.sl ((vals n c).map iRow)]):=by
 show rn _ _=_
 rw [e196_0_0];have hi:=r169 n c;simp only [hi,B5,nth,B7,B8,D.I,D.S,D.L,D.B];unfold vals;cases hq:isC n c with
 | false=>rfl
 | true =>
  obtain ⟨hn,h0,h64⟩:=isC_le hq;have e1:c.tdiv 4=c / 4:=O8 h0;have w1:IntKind.i64.wrap (c.tdiv 4)=c.tdiv 4:=by rw [e1]; exact IntWalk.i64_in _ (by omega)
  have h1:0<=c.tdiv 4:=by rw [e1]; omega
  have e2:(c.tdiv 4).tdiv 4=c / 4 / 4:=by rw [O8 h1,e1]
  have w2:IntKind.i64.wrap ((c.tdiv 4).tdiv 4)=(c.tdiv 4).tdiv 4:=by rw [e2]; exact IntWalk.i64_in _ (by omega)
  have st:∀ (x a:Int) (acc:Rows),0<x->acc.length<=10->rn ⟨196,0,1⟩ [.int x,.int a,.sl acc]=rn ⟨196,0,1⟩ [.int (IntKind.i64.wrap (x-1)),.int (IntKind.i64.wrap (a.tdiv 4)),.sl (acc++[[.int (a.tmod 4)]])]:=fun x a acc h hl=>by
   rw [e196_0_1];rw [H7 h];simp only [C8,D6];rw [show G9 (acc.length+(0+1)) M63=true from E9 (by unfold M63; omega)]
   rfl
  have fi:∀ (a:Int) (acc:Rows),rn ⟨196,0,1⟩ [.int 0,.int a,.sl acc]=some (0,[.sl acc]):=fun a acc=>by
   rw [e196_0_1];rfl
  simp only [D9,H2,if_true];obtain rfl | rfl | rfl | rfl:n=0\/n=1\/n=2\/n=3:=by omega
  · show (rn ⟨196,0,1⟩ [.int 0,.int c,.sl []]).bind _=_
    rw [fi];have hv:=rv0 0 0 0;show ((rn ⟨273,1,0⟩ [.sl []]).bind _:R)=_
    rw [hv]; rfl
  · show (rn ⟨196,0,1⟩ [.int 1,.int c,.sl []]).bind _=_
    rw [st 1 c [] (by decide) (by decide)]
    rw [w1];show (rn ⟨196,0,1⟩ [.int 0,.int (c.tdiv 4),.sl [[.int (c.tmod 4)]]]).bind _=_
    rw [fi];have hv:=rv1 (c.tmod 4) 0 0;show ((rn ⟨273,1,0⟩ [.sl [[.int (c.tmod 4)]]]).bind _:R)=_
    rw [hv]; rfl
  · show (rn ⟨196,0,1⟩ [.int 2,.int c,.sl []]).bind _=_
    rw [st 2 c [] (by decide) (by decide),w1]
    show (rn ⟨196,0,1⟩ [.int 1,.int (c.tdiv 4),.sl [[.int (c.tmod 4)]]]).bind _=_
    rw [st 1 _ _ (by decide) (by simp),w2]
    show (rn ⟨196,0,1⟩ [.int 0,.int ((c.tdiv 4).tdiv 4),.sl [[.int (c.tmod 4)],[.int ((c.tdiv 4).tmod 4)]]]).bind _=_
    rw [fi];have hv:=rv2 (c.tmod 4) ((c.tdiv 4).tmod 4) 0;show ((rn ⟨273,1,0⟩ [.sl [[.int (c.tmod 4)],[.int ((c.tdiv 4).tmod 4)]]]).bind _:R)=_
    rw [hv]; rfl
  · show (rn ⟨196,0,1⟩ [.int 3,.int c,.sl []]).bind _=_
    rw [st 3 c [] (by decide) (by decide),w1]
    show (rn ⟨196,0,1⟩ [.int 2,.int (c.tdiv 4),.sl [[.int (c.tmod 4)]]]).bind _=_
    rw [st 2 _ _ (by decide) (by simp),w2]
    show (rn ⟨196,0,1⟩ [.int 1,.int ((c.tdiv 4).tdiv 4),.sl [[.int (c.tmod 4)],[.int ((c.tdiv 4).tmod 4)]]]).bind _=_
    rw [st 1 _ _ (by decide) (by simp)]
    show (rn ⟨196,0,1⟩ [.int 0,.int _,.sl [[.int (c.tmod 4)],[.int ((c.tdiv 4).tmod 4)],[.int (((c.tdiv 4).tdiv 4).tmod 4)]]]).bind _=_
    rw [fi];have hv:=rv3 (c.tmod 4) ((c.tdiv 4).tmod 4) (((c.tdiv 4).tdiv 4).tmod 4);show ((rn ⟨273,1,0⟩ [.sl [[.int (c.tmod 4)],[.int ((c.tdiv 4).tmod 4)],[.int (((c.tdiv 4).tdiv 4).tmod 4)]]]).bind _:R)=_
    rw [hv]; rfl
theorem r195 (n:Nat) (c:Int):rn ⟨195,0,0⟩ [.int (n:Int),.int c]=some (0,[.sl ((vals n c).map iRow)]):=by
 show rn _ _=_
 rw [e195_0_0];have hi:=r155 n;have hj:=r94 c 0 (IntKind.i64.wrap (cnt4 n-1));rw [wcnt] at hj;simp only [hi,hj,B5,nth,B7,B8,D.I,D.S,D.L,D.B];unfold vals;cases hq:isC n c with
 | false=>rfl
 | true =>
  obtain ⟨hn,h0,h64⟩:=isC_le hq;have e1:c.tdiv 4=c / 4:=O8 h0;have w1:IntKind.i64.wrap (c.tdiv 4)=c.tdiv 4:=by rw [e1]; exact IntWalk.i64_in _ (by omega)
  have h1:0<=c.tdiv 4:=by rw [e1]; omega
  have e2:(c.tdiv 4).tdiv 4=c / 4 / 4:=by rw [O8 h1,e1]
  have w2:IntKind.i64.wrap ((c.tdiv 4).tdiv 4)=(c.tdiv 4).tdiv 4:=by rw [e2]; exact IntWalk.i64_in _ (by omega)
  have fi:∀ (a:Int) (acc:Rows),rn ⟨195,0,1⟩ [.int a,.int (-1),.sl acc]=some (0,[.sl acc]):=fun a acc=>by
   rw [e195_0_1];rfl
  simp only [D9,H2,if_true];obtain rfl | rfl | rfl | rfl:n=0\/n=1\/n=2\/n=3:=by omega
  · show (rn ⟨195,0,1⟩ [.int c,.int (-1),.sl []]).bind _=_
    rw [fi]; rfl
  · show (rn ⟨195,0,1⟩ [.int c,.int 0,.sl [[.int 0]]]).bind _=_
    rw [e195_0_1];show (rn ⟨195,0,1⟩ [.int (IntKind.i64.wrap (c.tdiv 4)),.int (-1),.sl [[.int (c.tmod 4)]]]).bind _=_
    rw [fi]; rfl
  · show (rn ⟨195,0,1⟩ [.int c,.int 1,.sl [[.int 0],[.int 0]]]).bind _=_
    rw [e195_0_1];show (rn ⟨195,0,1⟩ [.int (IntKind.i64.wrap (c.tdiv 4)),.int 0,.sl [[.int 0],[.int (c.tmod 4)]]]).bind _=_
    rw [w1];rw [e195_0_1];show (rn ⟨195,0,1⟩ [.int (IntKind.i64.wrap ((c.tdiv 4).tdiv 4)),.int (-1),.sl [[.int ((c.tdiv 4).tmod 4)],[.int (c.tmod 4)]]]).bind _=_
    rw [fi]; rfl
  · show (rn ⟨195,0,1⟩ [.int c,.int 2,.sl [[.int 0],[.int 0],[.int 0]]]).bind _=_
    rw [e195_0_1];show (rn ⟨195,0,1⟩ [.int (IntKind.i64.wrap (c.tdiv 4)),.int 1,.sl [[.int 0],[.int 0],[.int (c.tmod 4)]]]).bind _=_
    rw [w1];rw [e195_0_1];show (rn ⟨195,0,1⟩ [.int (IntKind.i64.wrap ((c.tdiv 4).tdiv 4)),.int 0,.sl [[.int 0],[.int ((c.tdiv 4).tmod 4)],[.int (c.tmod 4)]]]).bind _=_
    rw [w2];rw [e195_0_1];show (rn ⟨195,0,1⟩ [.int _,.int (-1),.sl [[.int (((c.tdiv 4).tdiv 4).tmod 4)],[.int ((c.tdiv 4).tmod 4)],[.int (c.tmod 4)]]]).bind _=_
    rw [fi]; rfl
theorem r199 (vars:List ByteArray) (c:Int):rn ⟨199,0,0⟩ [.sl (vars.map sRow),.int c]=some (0,[.sl ((caseS vars c).map Bnd.row)]):=by
 show rn _ _=_
 rw [e199_0_0];have hv:=r196 vars.length c;have hle:=vals_len vars.length c;have hle3:(vals vars.length c).length<=3:=by
  by_cases hC:isC vars.length c=true
  · have:=(isC_le hC).1; omega
  · unfold vals; rw [H6 hC]; simp
 have hz:(vars.zip (vals vars.length c)).length=(vals vars.length c).length:=by simp; omega
 have hf:=map_loop (F:=fun i acc=>rn ⟨199,0,1⟩ [.sl (vars.map sRow),.int (((vals vars.length c).map iRow).length),.int (i:Int),.sl acc,.sl ((vals vars.length c).map iRow)]) (xs:=vars.zip (vals vars.length c)) (fun p=>[.str p.1,.int 3,.int p.2,.str ⟨#[]⟩,.sl []]) (K:=fun acc=>some (0,[.sl (acc)])) (fun i hi acc ha=>?_) (fun acc=>?_)
 · simp only [C4] at hf
   simp only [B6];rw [hv];simp only [B5,nth,B7,B8,D.I,D.S,D.L,D.B];first
    | rw [hf]
    | (simp only [B6] at hf ⊢; rw [hf])
   simp only [B5,D7,H1,nth,B7,B8,D.I,D.S,D.L,D.B];unfold caseS;rw [O5];rfl
 · have hi1:i<vars.length:=by rw [List.length_zip] at hi; omega
   have hi2:i<(vals vars.length c).length:=by rw [List.length_zip] at hi; omega
   rw [e199_0_1];simp only [B9,rowAt_map hi1,rowAt_map hi2,sRow,iRow,B6,inbN,hi1,hi2,C3,H3,H1,nth,B7,B8,D.I,D.S,D.L,D.B,wrap_succ hi2 (by unfold maxLen; omega),C8,D6,B5]
   rw [show G9 (acc.length+(0+1)) M63=true from E9 (by unfold M63; omega)]
   rw [List.getElem_zip];rfl
 · skip
   rw [e199_0_1];simp [hz]
theorem r186 (vars:List ByteArray) (c:Int):rn ⟨186,0,0⟩ [.sl (vars.map sRow),.int c]=some (0,[.sl ((caseS vars c).map Bnd.row)]):=by
 show rn _ _=_
 rw [e186_0_0];have hv:=r195 vars.length c;have hle:=vals_len vars.length c;have hle3:(vals vars.length c).length<=3:=by
  by_cases hC:isC vars.length c=true
  · have:=(isC_le hC).1; omega
  · unfold vals; rw [H6 hC]; simp
 have hz:(vars.zip (vals vars.length c)).length=(vals vars.length c).length:=by simp; omega
 have hf:=map_loop (F:=fun i acc=>rn ⟨186,0,1⟩ [.sl (vars.map sRow),.int (i:Int),.sl acc,.sl ((vals vars.length c).map iRow)]) (xs:=vars.zip (vals vars.length c)) (fun p=>[.str p.1,.int 3,.int p.2,.str ⟨#[]⟩,.sl []]) (K:=fun acc=>some (0,[.sl (acc)])) (fun i hi acc ha=>?_) (fun acc=>?_)
 · simp only [C4] at hf
   simp only [B6];rw [hv];simp only [B5,nth,B7,B8,D.I,D.S,D.L,D.B];first
    | rw [hf]
    | (simp only [B6] at hf ⊢; rw [hf])
   simp only [B5,D7,H1,nth,B7,B8,D.I,D.S,D.L,D.B];unfold caseS;rw [O5];rfl
 · have hi1:i<vars.length:=by rw [List.length_zip] at hi; omega
   have hi2:i<(vals vars.length c).length:=by rw [List.length_zip] at hi; omega
   rw [e186_0_1];have hw:=r267 ((vals vars.length c)[i]);simp only [B9,rowAt_map hi1,rowAt_map hi2,sRow,iRow,B6,inbN,hi1,hi2,C3,H3,H1,nth,B7,B8,D.I,D.S,D.L,D.B,wrap_succ hi2 (by unfold maxLen; omega),C8,D6,B5,hw]
   rw [show G9 (acc.length+(0+1)) M63=true from E9 (by unfold M63; omega)]
   rw [List.getElem_zip];rfl
 · skip
   rw [e186_0_1];simp [hz]
theorem r105 (vars:List ByteArray) (t:Tm) (ht:Small t) (c:Int):rn ⟨105,0,0⟩ [.sl (vars.map sRow),.int t.k,.int t.n,.str t.s,.sl (t.as.map Tm.row),.int c]=some (0,[.int (inst vars t c).k,.int (inst vars t c).n,.str (inst vars t c).s,.sl ((inst vars t c).as.map Tm.row)]):=by
 show rn _ _=_
 rw [e105_0_0];have hl:(caseS vars c).length<=1048576:=by
  have:=vals_len vars.length c;by_cases hC:isC vars.length c=true
  · have:=(isC_le hC).1; unfold caseS; simp; omega
  · unfold caseS vals; rw [H6 hC]; simp
 have h1:=r186 vars c;have h2:=r185 (caseS vars c) hl (caseS_small vars c) t ht;have h3:=r184 (aS (caseS vars c) t) (aS_small (caseS_small vars c) t ht);simp only [h1,h2,h3,B5,nth,B7,B8,D.I,D.S,D.L,D.B];rfl
theorem caseS_len (vars:List ByteArray) (c:Int):(caseS vars c).length<=1048576:=by
 have:=vals_len vars.length c;by_cases hC:isC vars.length c=true
 · have:=(isC_le hC).1; unfold caseS; simp; omega
 · unfold caseS vals; rw [H6 hC]; simp
theorem r252:∀ t:Tm,t.nodes<=1048577->rn ⟨252,0,0⟩ [.int t.k,.int t.n,.str t.s,.sl (t.as.map Tm.row)]=some (0,[.sl (t.names.map sRow)]):=Tm.ind fun t ih h=>by
 have hnd:=Tm.nodes_eq t;have hsm:=names_sum t;have hlt:=len_sum (xs:=t.as);show rn _ _=_
 rw [e252_0_0];have hf:=fun a0:Rows=>fun ha0:a0.length<=1=>cat_loop (F:=fun i acc=>rn ⟨252,0,1⟩ [.sl (t.as.map Tm.row),.int (t.as.map Tm.row).length,.int (i:Int),.sl acc]) (xs:=t.as) (fun a=>a.names.map sRow) a0 (K:=fun acc=>some (0,[.sl acc])) (fun i hi acc ha=>by
  have hc:=ih _ (C0 hi) (by have:=mem_sum (f:=Tm.nodes) (C0 hi); omega)
  rw [e252_0_1];simp only [B9,rowAt_map hi,Tm.row_eq,B6,inbN,hi,C3,H3,H1,nth,B7,B8,D.I,D.S,D.L,D.B,wrap_succ hi (by unfold maxLen; omega),B5,hc]
  rw [F2,B6] at ha;rw [show G9 (acc.length+t.as[i].names.length) M63=true from E9 (by unfold M63; omega)]
  rfl) (fun acc=>by
  rw [e252_0_1];simp)
 simp only [C4] at hf;rw [names_rows];by_cases hk:t.k=1
 · rw [H5 hk,H7 hk]
   have h1:=hf [sRow t.s] (by simp)
   simp only [sRow] at h1;simp only [H1,sRow];rw [h1]; rfl
 · rw [H6 hk,H8 hk]
   have h1:=hf [] (by simp)
   simp only [H2];rw [h1]; rfl
theorem r347 (t:Tm) (h:t.nodes<=1048577):rn ⟨347,0,0⟩ [.int t.k,.int t.n,.str t.s,.sl (t.as.map Tm.row)]=some (0,[.bool (isG t)]):=by
 show rn _ _=_
 rw [e347_0_0];have hc:=r252 t h;simp only [hc,B5,nth,B7,B8,D.I,D.S,D.L,D.B,B6];rfl
theorem r237:∀ t:Tm,∀ a0:Rows,t.nodes<=1048577->a0.length+t.names.length<=1073741824->rn ⟨237,1,0⟩ [.int t.k,.int t.n,.str t.s,.sl (t.as.map Tm.row),.sl a0]=some (0,[.sl (a0++t.names.map sRow)]):=Tm.ind fun t ih a0 h h'=>by
 have hnd:=Tm.nodes_eq t;have hsm:=names_sum t;have hlt:=len_sum (xs:=t.as);show rn _ _=_
 rw [e237_1_0];have hf:=fun a1:Rows=>fun ha1:a1.length+(t.as.flatMap fun a=>a.names.map sRow).length<=1073741824=>cat_loop (F:=fun i acc=>rn ⟨237,1,1⟩ [.int (i:Int),.sl acc,.int t.k,.int t.n,.str t.s,.sl (t.as.map Tm.row)]) (xs:=t.as) (fun a=>a.names.map sRow) a1 (K:=fun acc=>some (0,[.sl acc])) (fun i hi acc ha=>by
  rw [F2] at ha;have hx:t.as[i].nodes<=(t.as.map Tm.nodes).sum:=mem_sum (f:=Tm.nodes) (C0 hi);have hc:=ih _ (C0 hi) acc (by omega) (by rw [B6] at ha; omega)
  rw [e237_1_1];simp only [B9,rowAt_map hi,Tm.row_eq,B6,inbN,hi,C3,H3,H1,nth,B7,B8,D.I,D.S,D.L,D.B,wrap_succ hi (by unfold maxLen; omega),B5,hc]) (fun acc=>by
  rw [e237_1_1];simp)
 simp only [C4] at hf;have hle:t.names.length=(if t.k=1 then [sRow t.s] else []).length+(t.as.flatMap fun a=>a.names.map sRow).length:=by
  rw [<- F2,<- names_rows,B6]
 rw [names_rows];by_cases hk:t.k=1
 · rw [H5 hk] at hle
   rw [H5 hk,H7 hk];have h1:=hf (a0++[sRow t.s]) (by rw [F2]; omega)
   simp only [sRow] at h1;simp only [H1,sRow,C8,D6];rw [show G9 (a0.length+(0+1)) M63=true from E9 (by unfold M63; omega)]
   simp only [H1];rw [h1,E1]; rfl
 · rw [H6 hk] at hle
   rw [H6 hk,H8 hk];have h1:=hf a0 (by rw [D6] at hle; omega)
   simp only [H2];rw [h1]; rfl
theorem r322 (t:Tm) (h:t.nodes<=1048577):rn ⟨322,0,0⟩ [.int t.k,.int t.n,.str t.s,.sl (t.as.map Tm.row)]=some (0,[.bool (isG t)]):=by
 show rn _ _=_
 rw [e322_0_0];have hc:=r237 t [] h (by have:=names_nodes t; simp; omega)
 simp only [hc,B5,nth,B7,B8,D.I,D.S,D.L,D.B,D0,B6];rfl
theorem r217:∀ t:Tm,∀ u:Tm,Small t->rn ⟨217,0,0⟩ [.int t.k,.int t.n,.str t.s,.sl (t.as.map Tm.row),.int u.k,.int u.n,.str u.s,.sl (u.as.map Tm.row)]=some (0,[.bool (eqb t.row u.row)]):=Tm.ind fun t ih u h=>by
 have hlt:=h.len;show rn _ _=_
 rw [e217_0_0];have hq:eqb t.row u.row=(decide (t.k=u.k)&&(decide (t.n=u.n)&&(decide (t.s=u.s)&&eqb (t.as.map Tm.row) (u.as.map Tm.row)))):=by
  rw [Tm.row_eq t,Tm.row_eq u];simp only [eqb_cons,eqb_nil,eqb_int,eqb_str,eqb_sl,J8]
 rw [hq];try simp only [B6]
 by_cases l0:u.as.length≠t.as.length
 · rw [H8 (by omega:¬(t.as.length:Int)=(u.as.length:Int)),eqb_len (fun h=>l0 (by simpa using h.symm))]
   cases decide (t.k=u.k) <;> cases decide (t.n=u.n) <;> cases decide (t.s=u.s) <;> rfl
 have l0:=Classical.not_not.1 l0;rw [H7 (by omega:(t.as.length:Int)=(u.as.length:Int))]
 have hf:=eq_loop (F:=fun i=>rn ⟨217,0,1⟩ [.int (i:Int),.int t.k,.int t.n,.str t.s,.sl (t.as.map Tm.row),.int u.k,.int u.n,.str u.s,.sl (u.as.map Tm.row)]) (xs:=t.as.map Tm.row) (ys:=u.as.map Tm.row) (A:=some (0,[])) (B:=some (1,[])) (by simpa using l0) (fun i hi=>?_) ?_
 · simp only [C4] at hf
   rw [hf];cases decide (t.k=u.k) <;> cases decide (t.n=u.n) <;> cases decide (t.s=u.s) <;> cases eqb (t.as.map Tm.row) (u.as.map Tm.row) <;> rfl
 · have hi:i<t.as.length:=by simpa using hi
   have hi2:i<u.as.length:=by omega
   have hc:=ih _ (C0 hi) u.as[i] (h.sub (C0 hi));rw [e217_0_1];rw [Q4,Q4];generalize eqb t.as[i].row u.as[i].row=z at hc ⊢;simp only [B9,rowAt_map hi,rowAt_map hi2,Tm.row_eq,B6,inbN,hi,hi2,C3,H3,H1,nth,B7,B8,D.I,D.S,D.L,D.B,wrap_succ hi (by unfold maxLen; omega),B5,hc]
   cases z <;> rfl
 · skip
   rw [e217_0_1];simp
theorem r289:∀ t:Tm,∀ u:Tm,Small t->rn ⟨289,0,0⟩ [.int t.k,.int t.n,.str t.s,.sl (t.as.map Tm.row),.int u.k,.int u.n,.str u.s,.sl (u.as.map Tm.row)]=some (0,[.bool (eqb t.row u.row)]):=Tm.ind fun t ih u h=>by
 have hlt:=h.len;show rn _ _=_
 rw [e289_0_0];have hq:eqb t.row u.row=(decide (t.k=u.k)&&(decide (t.n=u.n)&&(decide (t.s=u.s)&&eqb (t.as.map Tm.row) (u.as.map Tm.row)))):=by
  rw [Tm.row_eq t,Tm.row_eq u];simp only [eqb_cons,eqb_nil,eqb_int,eqb_str,eqb_sl,J8]
 rw [hq];try simp only [B6]
 have hl:rn ⟨325,0,0⟩ [.sl (t.as.map Tm.row),.sl (u.as.map Tm.row)]=some (0,[.bool (eqb (t.as.map Tm.row) (u.as.map Tm.row))]):=by
  rw [e325_0_0];simp only [B6];by_cases l0:u.as.length≠t.as.length
  · rw [H8 (by omega:¬(t.as.length:Int)=(u.as.length:Int)),eqb_len (fun h=>l0 (by simpa using h.symm))]; rfl
  have l0:=Classical.not_not.1 l0;rw [H7 (by omega:(t.as.length:Int)=(u.as.length:Int))]
  have hf:=eq_loop (F:=fun i=>rn ⟨325,0,1⟩ [.sl (u.as.map Tm.row),.sl (t.as.map Tm.row),.int ((t.as.map Tm.row)).length,.int (i:Int)]) (xs:=t.as.map Tm.row) (ys:=u.as.map Tm.row) (A:=some (0,[])) (B:=some (1,[])) (by simpa using l0) (fun i hi=>?_) ?_
  · simp only [C4,B6] at hf
    rw [hf];cases eqb (t.as.map Tm.row) (u.as.map Tm.row) <;> rfl
  · have hi:i<t.as.length:=by simpa using hi
    have hi2:i<u.as.length:=by omega
    have hc:=ih _ (C0 hi) u.as[i] (h.sub (C0 hi));rw [e325_0_1];rw [Q4,Q4];generalize eqb t.as[i].row u.as[i].row=z at hc ⊢;simp only [B9,rowAt_map hi,rowAt_map hi2,Tm.row_eq,B6,inbN,hi,hi2,C3,H3,H1,nth,B7,B8,D.I,D.S,D.L,D.B,wrap_succ hi (by unfold maxLen; omega),B5,hc]
    cases z <;> rfl
  · skip
    rw [e325_0_1];simp
 simp only [hl,B5,nth,B7,B8,D.I,D.S,D.L,D.B];cases decide (t.k=u.k) <;> cases decide (t.n=u.n) <;> cases decide (t.s=u.s) <;> rfl
theorem r326 (g:Gu) (h:g.ok):rn ⟨326,0,0⟩ [.int g.k,.int g.l.k,.int g.l.n,.str g.l.s,.sl (g.l.as.map Tm.row),.int g.r.k,.int g.r.n,.str g.r.s,.sl (g.r.as.map Tm.row)]=some (0,[.bool (holds g)]):=by
 show rn _ _=_
 rw [e326_0_0];obtain ⟨hl,hr⟩:=h;have sl:=small_of _ hl;have sr:=small_of _ hr;have hl':=J6 (rW_nodes g.l) hl;have hr':=J6 (rW_nodes g.r) hr;have a1:=r347 g.l hl;have a2:=r347 g.r hr;have b1:=r197 g.l sl;have b2:=r197 g.r sr;have c1:=r289 (rW g.l) (rW g.r) (rW_small _ sl);have d1:=r274 (rW g.l);have d2:=r274 (rW g.r);simp only [a1,a2,b1,b2,c1,d1,d2,B5,nth,B7,B8,D.I,D.S,D.L,D.B];unfold holds;cases isG g.l
 · rfl
 cases isG g.r
 · rfl
 simp only [D9,H2,F5];by_cases k1:g.k=1
 · rw [H5 k1,H7 k1]; rfl
 rw [H6 k1,H8 k1];by_cases k2:g.k=2
 · rw [H5 k2,H7 k2]; rfl
 rw [H6 k2,H8 k2];by_cases k3:g.k=3
 · rw [H5 k3,H7 k3]
   cases isW (rW g.l) <;> cases isW (rW g.r) <;> rfl
 · rw [H6 k3,H8 k3]; rfl
theorem r283 (g:Gu) (h:g.ok):rn ⟨283,0,0⟩ [.int g.k,.int g.l.k,.int g.l.n,.str g.l.s,.sl (g.l.as.map Tm.row),.int g.r.k,.int g.r.n,.str g.r.s,.sl (g.r.as.map Tm.row)]=some (0,[.bool (holds g)]):=by
 show rn _ _=_
 rw [e283_0_0];obtain ⟨hl,hr⟩:=h;have sl:=small_of _ hl;have sr:=small_of _ hr;have hl':=J6 (rW_nodes g.l) hl;have hr':=J6 (rW_nodes g.r) hr;have a1:=r322 (rW g.l) hl';have a2:=r322 (rW g.r) hr';have b1:=r184 g.l sl;have b2:=r184 g.r sr;have c1:=r217 (rW g.l) (rW g.r) (rW_small _ sl);have d1:=r266 (rW g.l);have d2:=r266 (rW g.r);simp only [a1,a2,b1,b2,c1,d1,d2,B5,nth,B7,B8,D.I,D.S,D.L,D.B];unfold holds;rw [isG_rW,isG_rW];cases isG g.l
 · rfl
 cases isG g.r
 · rfl
 simp only [D9,H2,F5];by_cases k1:g.k=1
 · rw [H5 k1,H7 k1]; rfl
 rw [H6 k1,H8 k1];by_cases k2:g.k=2
 · rw [H5 k2,H7 k2]; rfl
 rw [H6 k2,H8 k2];by_cases k3:g.k=3
 · rw [H5 k3,H7 k3]
   cases isW (rW g.l) <;> cases isW (rW g.r) <;> rfl
 · rw [H6 k3,H8 k3]; rfl
theorem r327 (l:List Bnd) (hl:l.length<=1048576) (hs:∀ b∈l,Small b.2) (g:Gu) (h:g.ok):rn ⟨327,0,0⟩ [.sl (l.map Bnd.row),.int g.k,.int g.l.k,.int g.l.n,.str g.l.s,.sl (g.l.as.map Tm.row),.int g.r.k,.int g.r.n,.str g.r.s,.sl (g.r.as.map Tm.row)]=some (0,[.int (appG l g).k,.int (appG l g).l.k,.int (appG l g).l.n,.str (appG l g).l.s,.int (appG l g).r.k,.int (appG l g).r.n,.str (appG l g).r.s,.sl ((appG l g).l.as.map Tm.row),.sl ((appG l g).r.as.map Tm.row)]):=by
 show rn _ _=_
 rw [e327_0_0];have a1:=r198 l hl hs g.l (small_of _ h.1);have a2:=r198 l hl hs g.r (small_of _ h.2);simp only [a1,a2,B5,nth,B7,B8,D.I,D.S,D.L,D.B];rfl
theorem r284 (l:List Bnd) (hl:l.length<=1048576) (hs:∀ b∈l,Small b.2) (g:Gu) (h:g.ok):rn ⟨284,0,0⟩ [.sl (l.map Bnd.row),.int g.k,.int g.l.k,.int g.l.n,.str g.l.s,.sl (g.l.as.map Tm.row),.int g.r.k,.int g.r.n,.str g.r.s,.sl (g.r.as.map Tm.row)]=some (0,[.int (appG l g).k,.int (appG l g).l.k,.int (appG l g).l.n,.str (appG l g).l.s,.int (appG l g).r.k,.int (appG l g).r.n,.str (appG l g).r.s,.sl ((appG l g).l.as.map Tm.row),.sl ((appG l g).r.as.map Tm.row)]):=by
 show rn _ _=_
 rw [e284_0_0];have a1:=r185 l hl hs g.l (small_of _ h.1);have a2:=r185 l hl hs g.r (small_of _ h.2);simp only [a1,a2,B5,nth,B7,B8,D.I,D.S,D.L,D.B];rfl
theorem gu_row (g:Gu):g.row=[.int g.k,.int g.l.k,.int g.l.n,.str g.l.s,.sl (g.l.as.map Tm.row),.int g.r.k,.int g.r.n,.str g.r.s,.sl (g.r.as.map Tm.row)]:=rfl
end Go.Q.S
end
section
namespace Go.Q.S
open Go Go.Q Go.Proofs
theorem r174 (vs cs0 cs:Rows) (t:Tm) (h:Small t) (h1:vs.length<=274877906944) (h2:cs.length<=274877906944):rn ⟨174,0,0⟩ [.sl vs,.int t.k,.int t.n,.str t.s,.sl (t.as.map Tm.row),.sl cs0,.sl cs]=some (0,[.int t.k,.int t.n,.str t.s,.sl vs,.sl (t.as.map Tm.row),.sl cs]):=by
 rw [e174_0_0];simp only [rCloneS vs h1,rCloneI cs h2,r259 t h,nth0,nth1,nth2,nth3,nth4,nth5,nth6,nth7,nth8,nth9,nth10,nth11,nth12,nth13,nth14,nth15,nth16,nth17,nth18,nth19,nth20,nth21,nth22,nth23,nth24,nth25,dI,dB,dS,dL,B5]
end Go.Q.S
end
section
namespace Go.Q.S
open Go Go.Q Go.Proofs
theorem qlt (a c:Nat):decide ((c:Int)<(a:Int))=!decide (a<=c):=by by_cases h:a<=c <;> simp [h] <;> omega
theorem qle (a c:Nat):decide ((c:Int)<=(a:Int))=decide (c<=a):=by by_cases h:c<=a <;> simp [h] <;> omega
theorem maxB {n:Nat} (h:n<=1099511627776):n<=maxLen:=by unfold maxLen; omega
theorem nb {n m:Nat} (h:n+m<=274877906944):G9 (n+m) M63=true:=E9 h
theorem r337 (c:Nat):rn ⟨337,0,0⟩ [.int (c:Int)]=some (0,[.bool (decide (97<=c)&&decide (c<=122))]):=by
 rw [e337_0_0,show decide ((97:Int)<=(c:Int))=decide (97<=c) from qle c 97,show decide ((c:Int)<=122)=decide (c<=122) from qle 122 c]
 cases decide (97<=c) <;> rfl
theorem r340 (c:Nat):rn ⟨340,0,0⟩ [.int (c:Int)]=some (0,[.bool (decide (48<=c)&&decide (c<=57))]):=by
 rw [e340_0_0,show decide ((48:Int)<=(c:Int))=decide (48<=c) from qle c 48,show decide ((c:Int)<=57)=decide (c<=57) from qle 57 c]
 cases decide (48<=c) <;> rfl
theorem rIn (a b c:Int):rn ⟨94,0,0⟩ [.int a,.int b,.int c]=some (0,[.bool (decide (b<=a)&&decide (a<=c))]):=r94 a b c
theorem r247 (s:ByteArray) (hs:s.size<=maxLen) (lo hi:Nat):rn ⟨247,0,0⟩ [.str s,.int (lo:Int),.int (hi:Int)]=some (0,[.bool (nameK lo hi s.data.toList)]):=by
 have hz:=size_list s;have hl:∀ n i,i+n=s.data.toList.length->rn ⟨247,0,1⟩ [.str s,.int (i:Int)]=bif (s.data.toList.drop i).all lowB then some (0,[]) else some (1,[]):=by
  intro n;induction n with
  | zero =>
   intro i hi;obtain rfl:i=s.data.toList.length:=by omega
   rw [e247_0_1];simp only [hz,B6,C3,D5,H4,H2,C9,N2,H1]
  | succ n ih =>
   intro i hi;have hlt:i<s.data.toList.length:=by omega
   rw [e247_0_1,C2 hlt];simp only [hz,C3,hlt,H3,H1,inbN,B9,wrap_succ hlt (by omega),get_list hlt,K0,ih (i+1) (by omega),lowB]
   generalize s.data.toList[i].toNat=c;rw [show decide ((c:Int)<97)=!decide (97<=c) from qlt 97 c,show decide ((c:Int)<48)=!decide (48<=c) from qlt 48 c,show decide ((57:Int)<(c:Int))=!decide (c<=57) from qlt c 57,show decide ((122:Int)<(c:Int))=!decide (c<=122) from qlt c 122]
   cases decide (97<=c) <;> cases decide (c<=122) <;> cases decide (48<=c) <;> cases decide (c<=57) <;> simp
 have h1:=hl (s.data.toList.length-1) 1;rw [e247_0_0];have hg:∀ h:0<s.data.toList.length,s.get! 0=s.data.toList[0]:=fun h=>get_list h
 rw [hz] at hs;rw [hz];generalize s.data.toList=l at hs hz hl h1 hg ⊢;cases l with
 | nil=>rfl
 | cons b r =>
  have e0:=hg (by simp)
  have e1:=h1 (by simp; omega)
  simp only [O9,D1] at e1;rw [show ((1:Nat):Int)=1 from rfl] at e1
  have hn:¬(((b::r).length:Nat):Int)<1:=by simp only [C8]; omega
  have hi0:inb 0 (b::r).length=true:=by simp [inb]
  rw [show decide ((8:Int)<(((b::r).length:Nat):Int))=!decide ((b::r).length<=8) from qlt _ 8]
  simp only [H8 hn,H2,hi0,H1,show P8 0=0 from rfl,e0,R9,e1,nameK]
  rw [qlt lo b.toNat,qlt b.toNat hi];cases decide ((b::r).length<=8) <;> cases decide (lo<=b.toNat) <;> cases decide (b.toNat<=hi) <;> cases r.all lowB <;> first | rfl | (simp; done) | (simp; rfl)
theorem r306 (s:ByteArray) (hs:s.size<=maxLen):rn ⟨306,0,0⟩ [.str s]=some (0,[.bool (isNm s)]):=by
 have h:=r247 s hs 97 122;rw [e306_0_0];simp only [show ((97:Nat):Int)=97 from rfl,show ((122:Nat):Int)=122 from rfl] at h
 simp only [h,nv0,nvS,dvI,dvB,dvS,dvL,B5]; rfl
theorem r164 (s:ByteArray) (hs:s.size<=maxLen):rn ⟨164,0,0⟩ [.str s]=some (0,[.bool (isVr s)]):=by
 have h:=r247 s hs 65 90;rw [e164_0_0];simp only [show ((65:Nat):Int)=65 from rfl,show ((90:Nat):Int)=90 from rfl] at h
 simp only [h,nv0,nvS,dvI,dvB,dvS,dvL,B5]; rfl
theorem r304 (s:ByteArray) (hs:s.size<=maxLen):rn ⟨304,0,0⟩ [.str s]=some (0,[.bool ((s.data.toList.drop 1).all lowB&&(decide (1<=s.data.toList.length)&&decide (s.data.toList.length<=8)))]):=by
 have hz:=size_list s;have hl:∀ n i,i+n=s.data.toList.length->rn ⟨304,0,1⟩ [.str s,.int (i:Int)]=bif (s.data.toList.drop i).all lowB then some (0,[.str s]) else some (1,[]):=by
  intro n;induction n with
  | zero =>
   intro i hi;obtain rfl:i=s.data.toList.length:=by omega
   rw [e304_0_1];simp only [hz,B6,C3,D5,H4,H2,C9,N2,H1]
  | succ n ih =>
   intro i hi;have hlt:i<s.data.toList.length:=by omega
   rw [e304_0_1,C2 hlt];simp only [hz,C3,hlt,H3,H1,inbN,B9,wrap_succ hlt (by omega),get_list hlt,K0,ih (i+1) (by omega),lowB,r337,r340,nv0,nvS,dvI,dvB,dvS,dvL,B5]
   generalize s.data.toList[i].toNat=c;cases decide (97<=c) <;> cases decide (c<=122) <;> cases decide (48<=c) <;> cases decide (c<=57) <;> simp
 rw [e304_0_0];have hlen:decide ((1:Int)<=(s.data.toList.length:Int))=decide (1<=s.data.toList.length):=qle s.data.toList.length 1;have hlen8:decide ((s.data.toList.length:Int)<=8)=decide (s.data.toList.length<=8):=qle 8 s.data.toList.length;by_cases h0:s.data.toList.length=0
 · have e:rn ⟨304,0,1⟩ [.str s,.int 1]=some (0,[.str s]):=by
    rw [e304_0_1];rw [H8 (show ¬(1:Int)<(s.size:Int) by rw [hz]; omega)]; rfl
   simp only [e,nv0,nvS,dvI,dvB,dvS,dvL,B5,D7,H1,H2,rIn,hz,hlen,hlen8];have:s.data.toList=[]:=F4.1 h0;rw [this]; rfl
 · have h1:=hl (s.data.toList.length-1) 1 (by omega)
   rw [show ((1:Nat):Int)=1 from rfl] at h1
   rw [h1];cases (s.data.toList.drop 1).all lowB with
   | true=>simp only [nv0,nvS,dvI,dvB,dvS,dvL,B5,D7,H1,H2,rIn,hz,hlen,hlen8,F5]
   | false=>rfl
theorem r300 (s:ByteArray) (hs:s.size<=maxLen):rn ⟨300,0,0⟩ [.str s]=some (0,[.bool (isNm s)]):=by
 have hr:=r304 s hs;have hz:=size_list s;rw [e300_0_0];have he:decide (s=(⟨#[]⟩:ByteArray))=decide (s.data.toList=[]):=decide_eq_decide.2 (nil_list s);have hg:∀ h:0<s.data.toList.length,s.get! 0=s.data.toList[0]:=fun h=>get_list h
 rw [he,hz];unfold isNm;generalize s.data.toList=l at hr hz hg ⊢;cases l with
 | nil=>rfl
 | cons b r =>
  have e0:=hg (by simp)
  have hi0:inb 0 (r.length+1)=true:=by simp [inb]
  simp only [show P8 0=0 from rfl,e0,R9,C8,hi0,H1,H8 (List.cons_ne_nil b r),N1,r337,nv0,nvS,dvI,dvB,dvS,dvL,B5,hr,nameK,O9,D1,C8]
  have:decide (1<=r.length+1)=true:=by simp
  rw [this];cases decide (97<=b.toNat) <;> cases decide (b.toNat<=122) <;> cases r.all lowB <;> cases decide (r.length+1<=8) <;> rfl
theorem r231 (s:ByteArray) (hs:s.size<=maxLen):rn ⟨231,0,0⟩ [.str s]=some (0,[.bool (isVr s)]):=by
 have hr:=r304 s hs;have hz:=size_list s;rw [e231_0_0];have he:decide (s=(⟨#[]⟩:ByteArray))=decide (s.data.toList=[]):=decide_eq_decide.2 (nil_list s);have hg:∀ h:0<s.data.toList.length,s.get! 0=s.data.toList[0]:=fun h=>get_list h
 rw [he,hz];unfold isVr;generalize s.data.toList=l at hr hz hg ⊢;cases l with
 | nil=>rfl
 | cons b r =>
  have e0:=hg (by simp)
  have hi0:inb 0 (r.length+1)=true:=by simp [inb]
  simp only [show P8 0=0 from rfl,e0,R9,C8,hi0,H1,H8 (List.cons_ne_nil b r),N1,nv0,nvS,dvI,dvB,dvS,dvL,B5,hr,nameK,O9,D1,C8]
  have:decide (1<=r.length+1)=true:=by simp
  rw [this,show decide ((65:Int)<=(b.toNat:Int))=decide (65<=b.toNat) from qle b.toNat 65,show decide ((b.toNat:Int)<=90)=decide (b.toNat<=90) from qle 90 b.toNat]
  cases decide (65<=b.toNat) <;> cases decide (b.toNat<=90) <;> cases r.all lowB <;> cases decide (r.length+1<=8) <;> rfl
theorem r248:∀ t:Tm,t.nodes<=2097152->rn ⟨248,0,0⟩ [.int t.k,.int t.n,.str t.s,.sl (t.as.map Tm.row)]=some (0,[.int (t.nodes:Int)]):=Tm.ind fun t ih h=>by
 have hnd:=Tm.nodes_eq t;have hls:=len_sum (xs:=t.as);have hl:∀ n i (c:Nat),i+n=t.as.length->c+((t.as.drop i).map Tm.nodes).sum<=2097152->rn ⟨248,0,1⟩ [.int (c:Int),.sl (t.as.map Tm.row),.int (t.as.length:Int),.int (i:Int)]=some (0,[.int ((c+((t.as.drop i).map Tm.nodes).sum:Nat):Int)]):=by
  intro n;induction n with
  | zero =>
   intro i c hi hc;obtain rfl:i=t.as.length:=by omega
   rw [e248_0_1];simp only [B6,C3,D5,H4,H2,C9,E0,List.sum_nil,Nat.add_zero]
  | succ n ih2 =>
   intro i c hi hc;have hlt:i<t.as.length:=by omega
   rw [C2 hlt] at hc ⊢;simp only [C7,J9] at hc ⊢;rw [e248_0_1];have h1:=ih _ (C0 hlt) (by omega)
   simp only [B6,C3,hlt,H3,H1,inbN,B9,rowAt_map hlt,wrap_succ hlt (maxB (by omega)),Tm.row_eq,nv0,nvS,dvI,dvB,dvS,dvL,B5,h1]
   rw [IntWalk.i64_in _ (by omega),show ((c:Int)+(t.as[i].nodes:Int))=((c+t.as[i].nodes:Nat):Int) by omega,ih2 (i+1) _ (by omega) (by omega),Nat.add_assoc]
 rw [e248_0_0];have:=hl t.as.length 0 1 (by omega) (by rw [D1]; omega)
 rw [D1,<- hnd] at this;simp only [B6,show ((1:Nat):Int)=1 from rfl,C4] at this ⊢
 simp only [this,nv0,nvS,dvI,dvB,dvS,dvL,B5,D7,H1,H2]
theorem dstep (a b:Nat):(bif decide (b<a) then (a:Int) else (b:Int))=((max b a:Nat):Int):=by
 by_cases h:b<a
 · rw [H7 h,H1]; omega
 · rw [H8 h,H2]; omega
theorem r249:∀ t:Tm,t.nodes<=2097152->rn ⟨249,0,0⟩ [.int t.k,.int t.n,.str t.s,.sl (t.as.map Tm.row)]=some (0,[.int (t.depth:Int)]):=Tm.ind fun t ih h=>by
 have hnd:=Tm.nodes_eq t;have hls:=len_sum (xs:=t.as);have hdn:=Tm.depth_nodes t;have hde:=Tm.depth_eq t;have hl:∀ n i (c:Nat),i+n=t.as.length->rn ⟨249,0,1⟩ [.int (c:Int),.sl (t.as.map Tm.row),.int (t.as.length:Int),.int (i:Int)]=some (0,[.int ((max c (Tm.depthL (t.as.drop i)):Nat):Int)]):=by
  intro n;induction n with
  | zero =>
   intro i c hi;obtain rfl:i=t.as.length:=by omega
   rw [e249_0_1];simp only [B6,C3,D5,H4,H2,C9,Tm.depthL,Nat.max_zero]
  | succ n ih2 =>
   intro i c hi;have hlt:i<t.as.length:=by omega
   rw [C2 hlt];have hm:=mem_sum (f:=Tm.nodes) (C0 hlt);have h1:=ih _ (C0 hlt) (by omega)
   rw [e249_0_1];simp only [B6,C3,hlt,H3,H1,inbN,B9,rowAt_map hlt,wrap_succ hlt (maxB (by omega)),Tm.row_eq,nv0,nvS,dvI,dvB,dvS,dvL,B5,h1]
   rw [dstep,ih2 (i+1) _ (by omega)]
   simp only [Tm.depthL,Nat.max_assoc]
 rw [e249_0_0];have:=hl t.as.length 0 0 (by omega)
 rw [D1,Nat.zero_max] at this;simp only [B6,C4] at this ⊢;simp only [this,nv0,nvS,dvI,dvB,dvS,dvL,B5,D7,H1,H2];rw [IntWalk.i64_in _ (by omega),hde]; rfl
theorem r183 (a b:Nat):rn ⟨183,0,0⟩ [.int (a:Int),.int (b:Int)]=some (0,[.int ((max a b:Nat):Int)]):=by
 rw [e183_0_0];by_cases h:(b:Int)<(a:Int)
 · rw [H7 h,H1,show max a b=a by omega]
 · rw [H8 h,H2,show max a b=b by omega]
theorem r233:∀ t:Tm,t.nodes<=2097152->rn ⟨233,0,0⟩ [.int t.k,.int t.n,.str t.s,.sl (t.as.map Tm.row)]=some (0,[.int (t.depth:Int)]):=Tm.ind fun t ih h=>by
 have hnd:=Tm.nodes_eq t;have hls:=len_sum (xs:=t.as);have hdn:=Tm.depth_nodes t;have hde:=Tm.depth_eq t;have hl:∀ n i (c:Nat),i+n=t.as.length->rn ⟨233,0,1⟩ [.int (c:Int),.int (i:Int),.int t.k,.int t.n,.str t.s,.sl (t.as.map Tm.row)]=some (0,[.int ((max c (Tm.depthL (t.as.drop i)):Nat):Int)]):=by
  intro n;induction n with
  | zero =>
   intro i c hi;obtain rfl:i=t.as.length:=by omega
   rw [e233_0_1];simp only [B6,C3,D5,H4,H2,C9,Tm.depthL,Nat.max_zero]
  | succ n ih2 =>
   intro i c hi;have hlt:i<t.as.length:=by omega
   rw [C2 hlt];have hm:=mem_sum (f:=Tm.nodes) (C0 hlt);have h1:=ih _ (C0 hlt) (by omega)
   rw [e233_0_1];simp only [B6,C3,hlt,H3,H1,inbN,B9,rowAt_map hlt,wrap_succ hlt (maxB (by omega)),Tm.row_eq,nv0,nvS,dvI,dvB,dvS,dvL,B5,h1,r183]
   have h2:=ih2 (i+1) (max c t.as[i].depth) (by omega)
   rw [h2];simp only [Tm.depthL,Nat.max_assoc]
 rw [e233_0_0];have:=hl t.as.length 0 0 (by omega)
 rw [D1,Nat.zero_max] at this;simp only [C4] at this ⊢;simp only [this,nv0,nvS,dvI,dvB,dvS,dvL,B5,D7,H1,H2];rw [IntWalk.i64_in _ (by omega),hde]; rfl
def leftI (n left:Nat):Int:=if n<=left then ((left-n:Nat):Int) else -1
theorem leftI_add {a b c:Nat} (h:a<=c):leftI b (c-a)=leftI (a+b) c:=by
 unfold leftI;by_cases hb:b<=c-a
 · rw [H5 hb,H5 (by omega),Nat.sub_sub]
 · rw [H6 hb,H6 (by omega)]
theorem r232:∀ t:Tm,∀ left:Nat,t.nodes<=2097152->left<=1048576->rn ⟨232,0,0⟩ [.int t.k,.int t.n,.str t.s,.sl (t.as.map Tm.row),.int (left:Int)]=some (0,[.int (leftI t.nodes left)]):=Tm.ind fun t ih left h hle=>by
 have hnd:=Tm.nodes_eq t;have hls:=len_sum (xs:=t.as);have hl:∀ n i (c:Nat),i+n=t.as.length->c<=1048576->rn ⟨232,0,1⟩ [.int (c:Int),.int (i:Int),.int t.k,.int t.n,.str t.s,.sl (t.as.map Tm.row)]=some (0,[.int (leftI ((t.as.drop i).map Tm.nodes).sum c)]):=by
  intro n;induction n with
  | zero =>
   intro i c hi hc;obtain rfl:i=t.as.length:=by omega
   rw [e232_0_1];simp only [B6,C3,D5,H4,H2,C9,E0,List.sum_nil,leftI,K4,if_true,Nat.sub_zero]
  | succ n ih2 =>
   intro i c hi hc;have hlt:i<t.as.length:=by omega
   rw [C2 hlt];rw [e232_0_1];have h1:=ih _ (C0 hlt) c (by have:=mem_sum (f:=Tm.nodes) (C0 hlt); omega) hc
   have hc0:(0:Int)<=(c:Int):=by omega
   simp only [B6,C3,hlt,H3,H1,inbN,B9,rowAt_map hlt,wrap_succ hlt (maxB (by omega)),Tm.row_eq,nv0,nvS,dvI,dvB,dvS,dvL,B5,h1,hc0]
   simp only [C7,J9];by_cases hq:t.as[i].nodes<=c
   · have e:leftI t.as[i].nodes c=((c-t.as[i].nodes:Nat):Int):=H5 hq
     rw [e,ih2 (i+1) _ (by omega) (by omega),leftI_add hq]
   · have e:leftI t.as[i].nodes c=-1:=H6 hq
     have e2:leftI (t.as[i].nodes+((t.as.drop (i+1)).map Tm.nodes).sum) c=-1:=H6 (by omega)
     rw [e,e2,e232_0_1];have hneg:¬(0:Int)<=-1:=by decide
     simp only [hneg,H4,H2];cases decide (((i+1:Nat):Int)<((t.as.map Tm.row).length:Int)) <;> rfl
 rw [e232_0_0,IntWalk.i64_in _ (by omega)]
 by_cases hz:left=0
 · subst hz
   have e:leftI t.nodes 0=-1:=H6 (by omega)
   have hneg:¬(0:Int)<=-1:=by decide
   have e2:rn ⟨232,0,1⟩ [.int (((0:Nat):Int)-1),.int 0,.int t.k,.int t.n,.str t.s,.sl (t.as.map Tm.row)]=some (0,[.int (-1)]):=by
    rw [e232_0_1];simp only [show (((0:Nat):Int)-1)=-1 from rfl,hneg,H4,H2]
    cases decide ((0:Int)<((t.as.map Tm.row).length:Int)) <;> rfl
   rw [e2,e]; rfl
 · have:=hl t.as.length 0 (left-1) (by omega) (by omega)
   rw [D1] at this;rw [show (left:Int)-1=((left-1:Nat):Int) by omega]
   simp only [C4] at this;simp only [this,nv0,nvS,dvI,dvB,dvS,dvL,B5,D7,H1,H2];rw [leftI_add (by omega),hnd]
end Go.Q.S
end
section
namespace Go.Q.S
open Go Go.Q Go.Proofs
theorem r250:∀ t:Tm,Wt t->rn ⟨250,0,0⟩ [.int t.k,.int t.n,.str t.s,.sl (t.as.map Tm.row)]=some (0,[.bool t.areN]):=Tm.ind fun t ih h=>by
 have hlm:=h.l;have hl:∀ n i,i+n=t.as.length->rn ⟨250,0,2⟩ [.sl (t.as.map Tm.row),.int (t.as.length:Int),.int (i:Int)]=bif Tm.areNL (t.as.drop i) then some (0,[]) else some (1,[]):=by
  intro n;induction n with
  | zero =>
   intro i hi;obtain rfl:i=t.as.length:=by omega
   rw [e250_0_2];simp only [B6,C3,D5,H4,H2,C9,Tm.areNL,H1]
  | succ n ih2 =>
   intro i hi;have hlt:i<t.as.length:=by omega
   rw [e250_0_2,C2 hlt];have h1:=ih _ (C0 hlt) (h.sub (C0 hlt));simp only [B6,C3,hlt,H3,H1,inbN,B9,rowAt_map hlt,wrap_succ hlt hlm,Tm.row_eq,nv0,nvS,dvI,dvB,dvS,dvL,B5,h1,ih2 (i+1) (by omega),Tm.areNL]
   cases t.as[i].areN <;> simp
 have h0:=hl t.as.length 0 (by omega)
 rw [D1] at h0;rw [e250_0_0,Tm.areN_eq];simp only [B6,C4] at h0 ⊢;simp only [h0,r164 t.s h.s,r274 t,r306 t.s h.s,nv0,nvS,dvI,dvB,dvS,dvL,B5];unfold Tm.nodeN;have hz:decide ((t.as.length:Int)=0)=decide (t.as.length=0):=by simp
 by_cases h1:t.k=1
 · rw [H7 h1,H5 h1,hz]
   by_cases h2:t.as.length=0
   · have:t.as=[]:=F4.1 h2
     rw [H7 h2,this];simp only [Tm.areNL,H1,J8,F5];cases decide (t.n=0) <;> cases isVr t.s <;> rfl
   · rw [H8 h2]
     cases decide (t.n=0) <;> rfl
 · rw [H8 h1,H6 h1]
   by_cases h3:t.k=3
   · rw [H7 h3,H5 h3]
     cases hw:isW t with
     | false=>rfl
     | true =>
      have:t.as=[]:=by simp only [isW,C1,decide_eq_true_eq] at hw; exact F4.1 hw.2.2.2.2
      rw [this]; rfl
   · rw [H8 h3,H6 h3]
     by_cases h2:t.k=2
     · rw [H7 h2,H5 h2]
       cases decide (t.n=0) <;> cases isNm t.s <;> cases Tm.areNL t.as <;> rfl
     · rw [H8 h2,H6 h2]; rfl
theorem r305 (t:Tm) (h:Wt t):rn ⟨305,0,0⟩ [.int t.k,.int t.n,.str t.s,.sl (t.as.map Tm.row)]=some (0,[.bool t.nodeN]):=by
 rw [e305_0_0];have hz:decide ((t.as.length:Int)=0)=decide (t.as.length=0):=by simp
 simp only [B6,r231 t.s h.s,r300 t.s h.s,nv0,nvS,dvI,dvB,dvS,dvL,B5,rIn,hz];unfold Tm.nodeN;by_cases h1:t.k=1
 · rw [H7 h1,H5 h1]
   cases decide (t.n=0) <;> cases isVr t.s <;> cases decide (t.as.length=0) <;> rfl
 · rw [H8 h1,H6 h1]
   by_cases h2:t.k=2
   · rw [H7 h2,H6 (by omega),H5 h2]
     cases decide (t.n=0) <;> cases isNm t.s <;> rfl
   · rw [H8 h2]
     by_cases h3:t.k=3
     · rw [H7 h3,H5 h3]
       unfold isW;have e2:decide (t.n<=3)=decide (t.n<4):=decide_eq_decide.2 (by omega)
       rw [H7 h3,e2];cases decide (t.s=(⟨#[]⟩:ByteArray)) <;> cases decide (0<=t.n) <;> cases decide (t.n<4) <;> cases decide (t.as.length=0) <;> rfl
     · rw [H8 h3,H6 h3,H6 h2]; rfl
theorem r234:∀ t:Tm,Wt t->rn ⟨234,0,0⟩ [.int t.k,.int t.n,.str t.s,.sl (t.as.map Tm.row)]=some (0,[.bool t.areN]):=Tm.ind fun t ih h=>by
 have hlm:=h.l;have hl:∀ n i,i+n=t.as.length->rn ⟨234,0,1⟩ [.int (i:Int),.int t.k,.int t.n,.str t.s,.sl (t.as.map Tm.row)]=bif Tm.areNL (t.as.drop i) then some (0,[.int t.k,.int t.n,.str t.s,.sl (t.as.map Tm.row)]) else some (1,[]):=by
  intro n;induction n with
  | zero =>
   intro i hi;obtain rfl:i=t.as.length:=by omega
   rw [e234_0_1];simp only [B6,C3,D5,H4,H2,C9,Tm.areNL,H1]
  | succ n ih2 =>
   intro i hi;have hlt:i<t.as.length:=by omega
   rw [e234_0_1,C2 hlt];have h1:=ih _ (C0 hlt) (h.sub (C0 hlt));simp only [B6,C3,hlt,H3,H1,inbN,B9,rowAt_map hlt,wrap_succ hlt hlm,Tm.row_eq,nv0,nvS,dvI,dvB,dvS,dvL,B5,h1,ih2 (i+1) (by omega),Tm.areNL]
   cases t.as[i].areN <;> simp
 have h0:=hl t.as.length 0 (by omega)
 rw [D1] at h0;rw [e234_0_0,Tm.areN_eq];simp only [C4] at h0 ⊢;rw [h0];cases Tm.areNL t.as with
 | true=>simp only [H1,nv0,nvS,dvI,dvB,dvS,dvL,B5,D7,H1,H2,r305 t h,J8]
 | false=>rw [Bool.and_false]; rfl
theorem r165 (t:Tm) (hn:t.nodes<=2097152) (h:Wt t):rn ⟨165,0,0⟩ [.int t.k,.int t.n,.str t.s,.sl (t.as.map Tm.row)]=some (0,[.bool t.valid]):=by
 rw [e165_0_0];simp only [r248 t hn,r249 t hn,r250 t h,nv0,nvS,dvI,dvB,dvS,dvL,B5];unfold Tm.valid;have i1:((t.nodes:Int)<=60)↔t.nodes<=60:=by omega
 have i2:((t.depth:Int)<=16)↔t.depth<=16:=by omega
 by_cases h1:t.nodes<=60 <;> by_cases h2:t.depth<=16 <;> simp [h1,h2,i1,i2]
theorem r152 (t:Tm) (hn:t.nodes<=2097152) (h:Wt t):rn ⟨152,0,0⟩ [.int t.k,.int t.n,.str t.s,.sl (t.as.map Tm.row)]=some (0,[.bool t.valid]):=by
 rw [e152_0_0];have h1:=r232 t 60 hn (by omega)
 rw [show ((60:Nat):Int)=60 from rfl] at h1
 simp only [h1,r233 t hn,r234 t h,nv0,nvS,dvI,dvB,dvS,dvL,B5];have i0:((0:Int)<=leftI t.nodes 60)↔t.nodes<=60:=by
  unfold leftI;split <;> omega
 unfold Tm.valid;have i2:((t.depth:Int)<=16)↔t.depth<=16:=by omega
 by_cases h1:t.nodes<=60 <;> by_cases h2:t.depth<=16 <;> simp [h1,h2,i0,i2]
theorem r163 (l:List ByteArray) (h:l.length<=1048576):rn ⟨163,0,0⟩ [.sl (l.map sRow)]=some (0,[.bool (dis l)]):=by
 rw [e163_0_0];simp only [r246 l (by omega),nv0,nvS,dvI,dvB,dvS,dvL,B5,B6]
 congr 4
 unfold dis;exact decide_eq_decide.2 (by rw [<- srtN_iff]; omega)
def ixS (s:ByteArray):List ByteArray->Nat->Int
 | [],_=>-1
 | x::r,i=>if x=s then (i:Int) else ixS s r (i+1)
theorem ixS_neg (s:ByteArray):∀ (l:List ByteArray) (i:Nat),ixS s l i<0↔s∉l
 | [],i=>by simp [ixS]
 | x::r,i=>by
  unfold ixS;by_cases h:x=s
  · rw [H5 h]; simp [h]
  · rw [H6 h,ixS_neg s r]; simp [Ne.symm h]
theorem r235 (l:List ByteArray) (hl:l.length<=maxLen) (s:ByteArray):rn ⟨235,0,0⟩ [.sl (l.map sRow),.str s]=some (0,[.int (ixS s l 0)]):=by
 have hlp:∀ n i,i+n=l.length->(ixS s (l.drop i) i=-1/\rn ⟨235,0,1⟩ [.sl (l.map sRow),.str s,.int (i:Int)]=some (0,[]))\/rn ⟨235,0,1⟩ [.sl (l.map sRow),.str s,.int (i:Int)]=some (1,[.int (ixS s (l.drop i) i)]):=by
  intro n;induction n with
  | zero =>
   intro i hi;obtain rfl:i=l.length:=by omega
   rw [e235_0_1];simp only [B6,C3,D5,H4,H2,C9,ixS];exact .inl ⟨trivial,trivial⟩
  | succ n ih =>
   intro i hi;have hlt:i<l.length:=by omega
   rw [e235_0_1,C2 hlt];simp only [B6,C3,hlt,H3,H1,inbN,B9,rowAt_map hlt,wrap_succ hlt hl,sRow,nv0,nvS,dvI,dvB,dvS,dvL,B5,ixS];by_cases h:l[i]=s
   · simp only [H7 h,H1,H5 h]; exact .inr trivial
   · simp only [H8 h,H2,H6 h]; exact ih (i+1) (by omega)
 have h:=hlp l.length 0 (by omega)
 rw [D1] at h;simp only [C4] at h;rw [e235_0_0];rcases h with ⟨h1,h2⟩ | h2
 · rw [h2,h1]; rfl
 · rw [h2]; rfl
theorem r229 (l:List ByteArray) (hl:l.length<=maxLen):rn ⟨229,0,0⟩ [.sl (l.map sRow)]=some (0,[.bool (dis l)]):=by
 have key:∀ n i,i+n=l.length->rn ⟨229,0,1⟩ [.sl (l.map sRow),.int (i:Int)]=bif (S3 i n).all (fun j=>decide (ixS (l.getD j e0) l 0=(j:Int))) then some (0,[]) else some (1,[]):=by
  intro n;induction n with
  | zero =>
   intro i hi;obtain rfl:i=l.length:=by omega
   rw [e229_0_1];simp only [B6,C3,D5,H4,H2,C9]; rfl
  | succ n ih =>
   intro i hi;have hlt:i<l.length:=by omega
   rw [e229_0_1,List.range'_succ];have hg:l.getD i e0=l[i]:=by simp [O1,hlt]
   simp only [B6,C3,hlt,H3,H1,inbN,B9,rowAt_map hlt,wrap_succ hlt hl,sRow,nv0,nvS,dvI,dvB,dvS,dvL,B5,r235 l hl,ih (i+1) (by omega),K0,hg]
   by_cases hq:ixS l[i] l 0=(i:Int)
   · simp [hq]
   · simp [hq]
 have h:=key l.length 0 (by omega)
 rw [e229_0_0];simp only [C4] at h;rw [h];have hfi:∀ (m:List ByteArray) (i k:Nat) (hk:k<m.length),ixS m[k] m i=((i+k:Nat):Int)↔∀ j (hj:j<k),m[j]≠m[k]:=by
  intro m;induction m with
  | nil=>intro i k hk; simp at hk
  | cons x m ih =>
   intro i k hk;cases k with
   | zero=>simp [ixS]
   | succ k =>
    have hk':k<m.length:=by simpa using hk
    simp only [List.getElem_cons_succ,ixS];by_cases hx:x=m[k]
    · rw [H5 hx]
      constructor
      · intro h; omega
      · intro h; exact absurd hx (h 0 (by omega))
    · rw [H6 hx]
      have:=ih (i+1) k hk';rw [show i+1+k=i+(k+1) by omega] at this
      rw [this];constructor
      · intro h j hj
        cases j with
        | zero=>exact hx
        | succ j=>exact h j (by omega)
      · intro h j hj; exact h (j+1) (by omega)
 have e:(S3 0 l.length).all (fun j=>decide (ixS (l.getD j e0) l 0=(j:Int)))=dis l:=by
  unfold dis;rw [Bool.eq_iff_iff,List.all_eq_true,decide_eq_true_eq];constructor
  · intro h
    refine S7.2 fun i j _ hj hij=>?_
    have h1:=h j (by simp [List.mem_range']; omega)
    simp only [decide_eq_true_eq] at h1;have hg:l.getD j e0=l[j]:=by simp [O1,hj]
    rw [hg] at h1;exact (hfi l 0 j hj).1 (by simpa using h1) i hij
  · intro h j hj
    have hj':j<l.length:=by simp [List.mem_range'] at hj; omega
    have hg:l.getD j e0=l[j]:=by simp [O1,hj']
    simp only [decide_eq_true_eq,hg];have:=(hfi l 0 j hj').2 fun i hi=>S7.1 h i j (by omega) hj' hi
    simpa using this
 rw [e];cases dis l <;> rfl
theorem rIndexS (l:List ByteArray) (hl:l.length<=maxLen) (s:ByteArray):rn ⟨341,0,0⟩ [.sl (l.map sRow),.str s]=some (0,[.int (ixS s l 0)]):=by
 have hlp:∀ n i,i+n=l.length->(ixS s (l.drop i) i=-1/\rn ⟨341,0,1⟩ [.sl (l.map sRow),.str s,.int (l.length:Int),.int (i:Int)]=some (0,[]))\/rn ⟨341,0,1⟩ [.sl (l.map sRow),.str s,.int (l.length:Int),.int (i:Int)]=some (1,[.int (ixS s (l.drop i) i)]):=by
  intro n;induction n with
  | zero =>
   intro i hi;obtain rfl:i=l.length:=by omega
   rw [e341_0_1];simp only [B6,C3,D5,H4,H2,C9,ixS];exact .inl ⟨trivial,trivial⟩
  | succ n ih =>
   intro i hi;have hlt:i<l.length:=by omega
   rw [e341_0_1,C2 hlt];simp only [B6,C3,hlt,H3,H1,inbN,B9,rowAt_map hlt,wrap_succ hlt hl,sRow,nv0,nvS,dvI,dvB,dvS,dvL,B5,ixS];by_cases h:l[i]=s
   · simp only [H7 h.symm,H1,H5 h]; exact .inr trivial
   · simp only [H8 (Ne.symm h),H2,H6 h]; exact ih (i+1) (by omega)
 have h:=hlp l.length 0 (by omega)
 rw [D1] at h;simp only [C4] at h;rw [e341_0_0];simp only [B6];rcases h with ⟨h1,h2⟩ | h2
 · rw [h2,h1]; rfl
 · rw [h2]; rfl
theorem ixS_has (l:List ByteArray) (s:ByteArray):decide ((0:Int)<=ixS s l 0)=hasS l s:=by
 rw [Bool.eq_iff_iff,decide_eq_true_eq,hasS_iff];have:=ixS_neg s l 0;constructor
 · intro h; exact Classical.byContradiction fun hn=>by have:=this.2 hn; omega
 · intro h; exact Classical.byContradiction fun hn=>absurd h (this.1 (by omega))
theorem ixS_no (l:List ByteArray) (s:ByteArray):decide (ixS s l 0<0)=!hasS l s:=by
 rw [<- ixS_has];by_cases h:ixS s l 0<0
 · rw [H7 h,H8 (by omega)]; rfl
 · rw [H8 h,H7 (by omega)]; rfl
theorem rContS (l:List ByteArray) (hl:l.length<=maxLen) (s:ByteArray):rn ⟨307,0,0⟩ [.sl (l.map sRow),.str s]=some (0,[.bool (hasS l s)]):=by
 rw [e307_0_0];simp only [rIndexS l hl,nv0,nvS,dvI,dvB,dvS,dvL,B5];rw [ixS_has]
theorem r251 (l r:List ByteArray) (hl:l.length<=2097152) (hr:r.length<=maxLen):rn ⟨251,0,0⟩ [.sl (l.map sRow),.sl (r.map sRow)]=some (0,[.sl ((wo l r).map sRow)]):=by
 have key:∀ n i (acc:List ByteArray),i+n=l.length->acc.length<=i->rn ⟨251,0,1⟩ [.sl (r.map sRow),.sl (l.map sRow),.int (l.length:Int),.int (i:Int),.sl (acc.map sRow)]=some (0,[.sl ((acc++wo (l.drop i) r).map sRow)]):=by
  intro n;induction n with
  | zero =>
   intro i acc hi ha;obtain rfl:i=l.length:=by omega
   rw [e251_0_1];simp only [B6,C3,D5,H4,H2,C9,wo,List.filter_nil,J4]
  | succ n ih =>
   intro i acc hi ha;have hlt:i<l.length:=by omega
   rw [e251_0_1,C2 hlt];simp only [B6,C3,hlt,H3,H1,inbN,B9,rowAt_map hlt,wrap_succ hlt (maxB (by omega)),sRow,nv0,nvS,dvI,dvB,dvS,dvL,B5,rContS r hr,C8,D6]
   unfold wo;rw [List.filter_cons];cases hh:hasS r l[i] with
   | true=>simp only [D9,H2,S0,if_false]; exact ih (i+1) acc (by omega) (by omega)
   | false =>
    simp only [N1,H1,if_true];rw [nb (by omega)]
    have:=ih (i+1) (acc++[l[i]]) (by omega) (by simp; omega)
    rw [E6] at this;simp only [H1];simpa [wo,sRow] using this
 have h:=key l.length 0 [] (by omega) (K4 _)
 rw [e251_0_0];simp only [C4,E0,D1,D0,B6] at h ⊢;simp only [h,nv0,nvS,dvI,dvB,dvS,dvL,B5,D7,H1,H2]
theorem r153 (l r:List ByteArray) (hl:l.length<=2097152) (hr:r.length<=maxLen):rn ⟨153,0,0⟩ [.sl (l.map sRow),.sl (r.map sRow)]=some (0,[.sl ((wo l r).map sRow)]):=by
 have key:∀ n i (acc:List ByteArray),i+n=l.length->acc.length<=i->rn ⟨153,0,1⟩ [.sl (l.map sRow),.sl (r.map sRow),.int (i:Int),.sl (acc.map sRow)]=some (0,[.sl ((acc++wo (l.drop i) r).map sRow)]):=by
  intro n;induction n with
  | zero =>
   intro i acc hi ha;obtain rfl:i=l.length:=by omega
   rw [e153_0_1];simp only [B6,C3,D5,H4,H2,C9,wo,List.filter_nil,J4]
  | succ n ih =>
   intro i acc hi ha;have hlt:i<l.length:=by omega
   rw [e153_0_1,C2 hlt];simp only [B6,C3,hlt,H3,H1,inbN,B9,rowAt_map hlt,wrap_succ hlt (maxB (by omega)),sRow,nv0,nvS,dvI,dvB,dvS,dvL,B5,r235 r hr,C8,D6]
   rw [ixS_no];unfold wo;rw [List.filter_cons];cases hh:hasS r l[i] with
   | true=>simp only [D9,H2,S0,if_false]; exact ih (i+1) acc (by omega) (by omega)
   | false =>
    simp only [N1,H1,if_true];rw [nb (by omega)]
    have:=ih (i+1) (acc++[l[i]]) (by omega) (by simp; omega)
    rw [E6] at this;simp only [H1];simpa [wo,sRow] using this
 have h:=key l.length 0 [] (by omega) (K4 _)
 rw [e153_0_0];simp only [C4,E0,D1,D0] at h ⊢;simp only [h,nv0,nvS,dvI,dvB,dvS,dvL,B5,D7,H1,H2]
end Go.Q.S
end
section
namespace Go.Q.S
open Go Go.Q Go.Proofs
theorem r310 (n:ByteArray) (a:List ByteArray) (r:ByteArray) (h:a.length<=1048576):rn ⟨310,0,0⟩ [.str n,.sl (a.map sRow),.str r]=some (0,[.str n,.str r,.sl (a.map sRow)]):=by
 rw [e310_0_0];have:=rCloneS (a.map sRow) (by rw [B6]; omega)
 simp only [this,nv0,nvS,dvI,dvB,dvS,dvL,B5]
theorem r243 (so:Rows) (ops:List OpM) (ho:SigB ops) (s:ByteArray):rn ⟨243,0,0⟩ [.sl so,.sl (ops.map OpM.row),.str s]=some (0,foRes (findO ops s)):=by
 have hm:=ho.l;have hl:∀ n i,i+n=ops.length->rn ⟨243,0,1⟩ [.str s,.sl (ops.map OpM.row),.int (ops.length:Int),.int (i:Int),.str e0,.str e0,.sl []]=match (ops.drop i).find? (fun o=>decide (o.n=s)) with | some o=>some (1,[.str o.n,.str o.r,.sl (o.a.map sRow)]) | none=>some (0,[.str e0,.str e0,.sl []]):=by
  intro n;induction n with
  | zero =>
   intro i hi;obtain rfl:i=ops.length:=by omega
   rw [e243_0_1];simp only [B6,C3,D5,H4,H2,C9,S4]
  | succ n ih =>
   intro i hi;have hlt:i<ops.length:=by omega
   rw [e243_0_1,C2 hlt];have h1:=r310 ops[i].n ops[i].a ops[i].r (ho.a _ (C0 hlt));simp only [B6,C3,hlt,H3,H1,inbN,B9,rowAt_map hlt,wrap_succ hlt (maxB (by omega)),OpM.row,nv0,nvS,dvI,dvB,dvS,dvL,B5,P1,ih (i+1) (by omega),h1]
   by_cases hq:ops[i].n=s <;> simp [hq]
 have h:=hl ops.length 0 (by omega)
 rw [D1] at h;simp only [C4] at h;rw [e243_0_0];simp only [B6,r244,nv0,nvS,dvI,dvB,dvS,dvL,B5,h];unfold findO;cases isB s with
 | true=>rfl
 | false =>
  cases ops.find? (fun o=>decide (o.n=s)) <;> rfl
theorem r239 (so:Rows) (ops:List OpM) (ho:SigB ops) (s:ByteArray):rn ⟨239,0,0⟩ [.sl so,.sl (ops.map OpM.row),.str s]=some (0,foRes (findO ops s)):=by
 have hm:=ho.l;have hl:∀ n i,i+n=ops.length->rn ⟨239,0,1⟩ [.str s,.int (i:Int),.sl so,.sl (ops.map OpM.row),.str e0,.str e0,.sl []]=match (ops.drop i).find? (fun o=>decide (o.n=s)) with | some o=>some (1,[.str o.n,.str o.r,.sl (o.a.map sRow)]) | none=>some (0,[.str e0,.str e0,.sl []]):=by
  intro n;induction n with
  | zero =>
   intro i hi;obtain rfl:i=ops.length:=by omega
   rw [e239_0_1];simp only [B6,C3,D5,H4,H2,C9,S4]
  | succ n ih =>
   intro i hi;have hlt:i<ops.length:=by omega
   rw [e239_0_1,C2 hlt];have h1:ops[i].a.length<=1048576:=ho.a _ (C0 hlt);have h2:G9 (0+ops[i].a.length) M63=true:=nb (by omega)
   simp only [B6,C3,hlt,H3,H1,inbN,B9,rowAt_map hlt,wrap_succ hlt (maxB (by omega)),OpM.row,nv0,nvS,dvI,dvB,dvS,dvL,B5,P1,ih (i+1) (by omega),D6,h2,D0]
   by_cases hq:ops[i].n=s <;> simp [hq]
 have h:=hl ops.length 0 (by omega)
 rw [D1] at h;simp only [C4] at h;rw [e239_0_0];simp only [B6,r265,nv0,nvS,dvI,dvB,dvS,dvL,B5,h];unfold findO;cases isB s with
 | true=>rfl
 | false =>
  cases ops.find? (fun o=>decide (o.n=s)) <;> rfl
theorem r167 (so:Rows) (ops:List OpM) (ho:SigB ops) (vs:List VS) (hv:vs.length<=1099511627776):∀ t:Tm,Wt t->rn ⟨167,0,0⟩ [.sl so,.sl (ops.map OpM.row),.int t.k,.int t.n,.str t.s,.sl (t.as.map Tm.row),.sl (vs.map VS.row)]=some (0,[.str (sortT ops vs t)]):=Tm.ind fun t ih h=>by
 have hlm:=h.l;have hvl:∀ n i,i+n=vs.length->rn ⟨167,0,2⟩ [.sl (vs.map VS.row),.int (vs.length:Int),.int (i:Int),.int t.k,.int t.n,.str t.s,.sl (t.as.map Tm.row)]=match (vs.drop i).find? (fun v=>decide (v.1=t.s)) with | some v=>some (1,[.str v.2]) | none=>some (0,[]):=by
  intro n;induction n with
  | zero =>
   intro i hi;obtain rfl:i=vs.length:=by omega
   rw [e167_0_2];simp only [B6,C3,D5,H4,H2,C9,S4]
  | succ n ih2 =>
   intro i hi;have hlt:i<vs.length:=by omega
   rw [e167_0_2,C2 hlt];simp only [B6,C3,hlt,H3,H1,inbN,B9,rowAt_map hlt,wrap_succ hlt (maxB hv),VS.row,nv0,nvS,dvI,dvB,dvS,dvL,B5,P1,ih2 (i+1) (by omega)]
   by_cases hq:vs[i].1=t.s <;> simp [hq]
 have hal:∀ o:OpM,o.a.length=t.as.length->∀ n i,i+n=t.as.length->rn ⟨167,0,4⟩ [.sl (vs.map VS.row),.sl (t.as.map Tm.row),.int (t.as.length:Int),.int (i:Int),.sl so,.sl (ops.map OpM.row),.str o.n,.str o.r,.sl (o.a.map sRow)]=bif sortsT ops vs (t.as.drop i) (o.a.drop i) then some (0,[.str o.n,.str o.r,.sl (o.a.map sRow)]) else some (1,[.str e0]):=by
  intro o hlen n;induction n with
  | zero =>
   intro i hi;obtain rfl:i=t.as.length:=by omega
   rw [e167_0_4];simp only [B6,C3,D5,H4,H2,C9,sortsT,H1]
  | succ n ih2 =>
   intro i hi;have hlt:i<t.as.length:=by omega
   have hlo:i<o.a.length:=by omega
   have h1:=ih _ (C0 hlt) (h.sub (C0 hlt));rw [e167_0_4,C2 hlt,C2 hlo];simp only [B6,C3,hlt,H3,H1,inbN,B9,rowAt_map hlt,wrap_succ hlt hlm,hlo,rowAt_map hlo,Tm.row_eq,sRow,nv0,nvS,dvI,dvB,dvS,dvL,B5,ih2 (i+1) (by omega),h1,sortsT]
   by_cases hq:sortT ops vs t.as[i]=e0
   · simp [hq]
   · by_cases hq2:sortT ops vs t.as[i]=o.a[i]
     · have hq3:=hq; rw [hq2] at hq3
       simp [hq2,hq3]
     · simp [hq,hq2]
 have hv0:=hvl vs.length 0 (by omega)
 have ha0:=fun o ho=>hal o ho t.as.length 0 (by omega)
 simp only [D1,C4] at hv0 ha0;rw [e167_0_0,sortT_eq];by_cases h3:t.k=3
 · simp [h3]
 · by_cases h1:t.k=1
   · rw [H6 h3,H5 h1]
     simp only [h1] at hv0;simp only [B6,hv0,h1,H3,H1];unfold lookV;cases vs.find? (fun v=>decide (v.1=t.s)) <;> rfl
   · rw [H6 h3,H6 h1]
     by_cases h2:t.k=2
     · rw [H5 h2]
       simp only [B6,h2,H3,H1,if_true,r243 so ops ho,nv0,nvS,dvI,dvB,dvS,dvL,B5];cases hf:findO ops t.s with
       | none=>rfl
       | some o =>
        by_cases hlen:o.a.length=t.as.length
        · simp only [foRes,nv0,nvS,dvI,dvB,dvS,dvL,B5,B6,hlen,H3,ha0 o hlen]
          cases sortsT ops vs t.as o.a <;> rfl
        · simp only [foRes,nv0,nvS,dvI,dvB,dvS,dvL,B5,B6]
          have:¬((o.a.length:Int)=(t.as.length:Int)):=by omega
          simp [this,hlen]
     · simp [h1,h2,h3]
theorem r238 (vs:List VS) (hv:vs.length<=1099511627776) (s:ByteArray):rn ⟨238,0,0⟩ [.sl (vs.map VS.row),.str s]=some (0,[.str (lookV vs s)]):=by
 have hvl:∀ n i,i+n=vs.length->rn ⟨238,0,1⟩ [.sl (vs.map VS.row),.str s,.int (i:Int)]=match (vs.drop i).find? (fun v=>decide (v.1=s)) with | some v=>some (1,[.str v.2]) | none=>some (0,[]):=by
  intro n;induction n with
  | zero =>
   intro i hi;obtain rfl:i=vs.length:=by omega
   rw [e238_0_1];simp only [B6,C3,D5,H4,H2,C9,S4]
  | succ n ih2 =>
   intro i hi;have hlt:i<vs.length:=by omega
   rw [e238_0_1,C2 hlt];simp only [B6,C3,hlt,H3,H1,inbN,B9,rowAt_map hlt,wrap_succ hlt (maxB hv),VS.row,nv0,nvS,dvI,dvB,dvS,dvL,B5,P1,ih2 (i+1) (by omega)]
   by_cases hq:vs[i].1=s <;> simp [hq]
 have hv0:=hvl vs.length 0 (by omega)
 simp only [D1,C4] at hv0;rw [e238_0_0];rw [hv0];unfold lookV;cases vs.find? (fun v=>decide (v.1=s)) <;> rfl
theorem r156 (so:Rows) (ops:List OpM) (ho:SigB ops) (vs:List VS) (hv:vs.length<=1099511627776):∀ t:Tm,Wt t->rn ⟨156,0,0⟩ [.sl so,.sl (ops.map OpM.row),.int t.k,.int t.n,.str t.s,.sl (t.as.map Tm.row),.sl (vs.map VS.row)]=some (0,[.str (sortT ops vs t)]):=Tm.ind fun t ih h=>by
 have hlm:=h.l;have hal:∀ o:OpM,o.a.length=t.as.length->∀ n i,i+n=t.as.length->rn ⟨156,0,2⟩ [.sl (vs.map VS.row),.int (i:Int),.sl so,.sl (ops.map OpM.row),.int t.k,.int t.n,.str t.s,.sl (t.as.map Tm.row),.str o.n,.str o.r,.sl (o.a.map sRow)]=bif sortsT ops vs (t.as.drop i) (o.a.drop i) then some (0,[.str o.n,.str o.r,.sl (o.a.map sRow)]) else some (1,[.str e0]):=by
  intro o hlen n;induction n with
  | zero =>
   intro i hi;obtain rfl:i=t.as.length:=by omega
   rw [e156_0_2];simp only [B6,C3,D5,H4,H2,C9,sortsT,H1]
  | succ n ih2 =>
   intro i hi;have hlt:i<t.as.length:=by omega
   have hlo:i<o.a.length:=by omega
   have h1:=ih _ (C0 hlt) (h.sub (C0 hlt));rw [e156_0_2,C2 hlt,C2 hlo];simp only [B6,C3,hlt,H3,H1,inbN,B9,rowAt_map hlt,wrap_succ hlt hlm,hlo,rowAt_map hlo,Tm.row_eq,sRow,nv0,nvS,dvI,dvB,dvS,dvL,B5,ih2 (i+1) (by omega),h1,sortsT]
   by_cases hq2:sortT ops vs t.as[i]=o.a[i]
   · by_cases hq:o.a[i]=e0
     · simp [hq2,hq]
     · simp [hq2,hq]
   · simp [hq2]
 have ha0:=fun o ho=>hal o ho t.as.length 0 (by omega)
 simp only [D1,C4] at ha0;rw [e156_0_0,sortT_eq];by_cases h3:t.k=3
 · simp [h3]
 · by_cases h1:t.k=1
   · rw [H6 h3,H5 h1]
     simp only [h1,H3,H1,r238 vs hv,nv0,nvS,dvI,dvB,dvS,dvL,B5];rfl
   · rw [H6 h3,H6 h1]
     by_cases h2:t.k=2
     · rw [H5 h2]
       simp only [h2,H3,H1,if_true,r239 so ops ho,nv0,nvS,dvI,dvB,dvS,dvL,B5];cases hf:findO ops t.s with
       | none=>rfl
       | some o =>
        by_cases hlen:o.a.length=t.as.length
        · have:=ha0 o hlen
          rw [h2] at this;simp only [foRes,nv0,nvS,dvI,dvB,dvS,dvL,B5,B6,hlen,H3,this];cases sortsT ops vs t.as o.a <;> rfl
        · simp only [foRes,nv0,nvS,dvI,dvB,dvS,dvL,B5,B6]
          have:¬((o.a.length:Int)=(t.as.length:Int)):=by omega
          simp [this,hlen]
     · simp [h1,h2,h3]
end Go.Q.S
end
section
namespace Go.Q.S
open Go Go.Q Go.Proofs
theorem inferI (so:Rows) (ops:List OpM) (ho:SigB ops):∀ t:Tm,∀ (x:ByteArray) (vs:List VS),Wt t->vs.length+t.nodes<=4194304->rn ⟨342,1,0⟩ [.sl so,.sl (ops.map OpM.row),.int t.k,.int t.n,.str t.s,.sl (t.as.map Tm.row),.str x,.sl (vs.map VS.row)]=some (0,infR ops t x vs):=Tm.ind fun t ih x vs h hb=>by
 have hlm:=h.l;have hnd:=Tm.nodes_eq t;have hvl:∀ n i,i+n=vs.length->rn ⟨342,1,1⟩ [.str x,.int (vs.length:Int),.int (i:Int),.sl (vs.map VS.row),.int t.k,.int t.n,.str t.s,.sl (t.as.map Tm.row)]=match (vs.drop i).find? (fun v=>decide (v.1=t.s)) with | some v=>some (1,[.bool (decide (v.2=x)),.sl (vs.map VS.row)]) | none=>some (0,[.str x,.sl (vs.map VS.row),.int t.k,.int t.n,.str t.s,.sl (t.as.map Tm.row)]):=by
  intro n;induction n with
  | zero =>
   intro i hi;obtain rfl:i=vs.length:=by omega
   rw [e342_1_1];simp only [B6,C3,D5,H4,H2,C9,S4]
  | succ n ih2 =>
   intro i hi;have hlt:i<vs.length:=by omega
   rw [e342_1_1,C2 hlt];simp only [B6,C3,hlt,H3,H1,inbN,B9,rowAt_map hlt,wrap_succ hlt (maxB (by omega)),VS.row,nv0,nvS,dvI,dvB,dvS,dvL,B5,P1,ih2 (i+1) (by omega)]
   by_cases hq:vs[i].1=t.s <;> simp [hq]
 have hal:∀ (n1 n2:ByteArray) (a:List ByteArray),a.length<=1048576->∀ n i (vs:List VS),i+n=t.as.length->vs.length+((t.as.drop i).map Tm.nodes).sum<=4194304->rn ⟨342,1,3⟩ [.sl (t.as.map Tm.row),.int (t.as.length:Int),.int (i:Int),.sl (vs.map VS.row),.sl so,.sl (ops.map OpM.row),.str n1,.str n2,.sl (a.map sRow)]=match infL ops (t.as.drop i) (a.drop i) vs with | some v=>some (0,[.sl (v.map VS.row)]) | none=>some (1,[.sl []]):=by
  intro n1 n2 a hal n;induction n with
  | zero =>
   intro i vs hi hb;obtain rfl:i=t.as.length:=by omega
   rw [e342_1_3];simp only [B6,C3,D5,H4,H2,C9,infL]
  | succ n ih2 =>
   intro i vs hi hb;have hlt:i<t.as.length:=by omega
   have hmem:=C0 hlt;rw [C2 hlt] at hb ⊢;simp only [C7,J9] at hb;rw [e342_1_3];by_cases hla:i<a.length
   · have h1:=ih _ hmem a[i] vs (h.sub hmem) (by omega)
     rw [C2 hla];simp only [B6,C3,hlt,H3,H1,inbN,B9,rowAt_map hlt,wrap_succ hlt hlm,hla,rowAt_map hla,Tm.row_eq,sRow,nv0,nvS,dvI,dvB,dvS,dvL,B5,h1,infL,infR];cases hq:infT ops t.as[i] a[i] vs with
     | none=>rfl
     | some v =>
      have hv:=infT_len ops _ _ _ _ hq;have h2:=ih2 (i+1) v (by omega) (by omega)
      simp only [nv0,nvS,dvI,dvB,dvS,dvL,B5,h2,D9,H2]
   · have h1:=ih _ hmem e0 vs (h.sub hmem) (by omega)
     rw [show a.drop i=[] from O2 (by omega)]
     simp only [B6,C3,hlt,H3,H1,inbN,B9,rowAt_map hlt,wrap_succ hlt hlm,hla,H4,H2,Tm.row_eq,sRow,nv0,nvS,dvI,dvB,dvS,dvL,B5,h1,infL,infR];cases hq:infT ops t.as[i] e0 vs with
     | none=>rfl
     | some v =>
      have hv:=infT_len ops _ _ _ _ hq;have h2:=ih2 (i+1) v (by omega) (by omega)
      rw [show a.drop (i+1)=[] from O2 (by omega)] at h2
      simp only [nv0,nvS,dvI,dvB,dvS,dvL,B5,h2,D9,H2]
 have hv0:=hvl vs.length 0 (by omega)
 have ha0:=fun n1 n2 a ha=>hal n1 n2 a ha t.as.length 0 vs (by omega) (by rw [D1]; omega)
 simp only [D1,C4] at hv0 ha0;rw [e342_1_0];unfold infR;rw [infT_eq];by_cases h1:t.k=1
 · rw [H5 h1,H5 h1]
   simp only [h1] at hv0;have hb2:G9 (vs.length+1) M63=true:=nb (by omega)
   simp only [B6,h1,H3,H1,hv0];cases hq:vs.find? (fun v=>decide (v.1=t.s)) with
   | none=>simp only [nv0,nvS,dvI,dvB,dvS,dvL,B5,D7,H1,H2,B6,C8,D6,E8,hb2,E6]; rfl
   | some v =>
    simp only [nv0,nvS,dvI,dvB,dvS,dvL,B5,D7,H1,H2,show E3 1 0=false from rfl]
    by_cases hq2:v.2=x <;> simp [hq2]
 · rw [H6 h1,H6 h1]
   by_cases h2:t.k=2
   · simp only [B6,h2,H3,H1,if_true,r243 so ops ho,nv0,nvS,dvI,dvB,dvS,dvL,B5]
     cases hf:findO ops t.s with
     | none =>
      simp only [foRes,nv0,nvS,dvI,dvB,dvS,dvL,B5];rw [show ([]:Rows)=([]:List ByteArray).map sRow from rfl,ha0 e0 e0 [] (by simp)]
      cases infL ops t.as [] vs <;> rfl
     | some o =>
      have hok:o.ok:=findO_ok ho.a hf;simp only [foRes,nv0,nvS,dvI,dvB,dvS,dvL,B5];rw [ha0 o.n o.r o.a hok];cases infL ops t.as o.a vs <;> rfl
   · simp only [B6,h1,h2,H4,H2,if_false]
     rw [show ([]:Rows)=([]:List ByteArray).map sRow from rfl,ha0 e0 e0 [] (by simp)]
     cases infL ops t.as [] vs <;> rfl
theorem inferS (so:Rows) (ops:List OpM) (ho:SigB ops):∀ t:Tm,∀ (x:ByteArray) (vs:List VS),Wt t->vs.length+t.nodes<=4194304->rn ⟨338,1,0⟩ [.sl so,.sl (ops.map OpM.row),.int t.k,.int t.n,.str t.s,.sl (t.as.map Tm.row),.str x,.sl (vs.map VS.row)]=some (0,infR ops t x vs):=Tm.ind fun t ih x vs h hb=>by
 have hlm:=h.l;have hnd:=Tm.nodes_eq t;have hvl:∀ n i,i+n=vs.length->rn ⟨338,1,1⟩ [.str x,.int (i:Int),.sl (vs.map VS.row),.int t.k,.int t.n,.str t.s,.sl (t.as.map Tm.row)]=match (vs.drop i).find? (fun v=>decide (v.1=t.s)) with | some v=>some (1,[.bool (decide (v.2=x)),.sl (vs.map VS.row)]) | none=>some (0,[.str x,.sl (vs.map VS.row),.int t.k,.int t.n,.str t.s,.sl (t.as.map Tm.row)]):=by
  intro n;induction n with
  | zero =>
   intro i hi;obtain rfl:i=vs.length:=by omega
   rw [e338_1_1];simp only [B6,C3,D5,H4,H2,C9,S4]
  | succ n ih2 =>
   intro i hi;have hlt:i<vs.length:=by omega
   rw [e338_1_1,C2 hlt];simp only [B6,C3,hlt,H3,H1,inbN,B9,rowAt_map hlt,wrap_succ hlt (maxB (by omega)),VS.row,nv0,nvS,dvI,dvB,dvS,dvL,B5,P1,ih2 (i+1) (by omega)]
   by_cases hq:vs[i].1=t.s <;> simp [hq]
 have hal:∀ (n1 n2:ByteArray) (a:List ByteArray),a.length<=1048576->∀ n i (vs:List VS),i+n=t.as.length->vs.length+((t.as.drop i).map Tm.nodes).sum<=4194304->rn ⟨338,1,3⟩ [.int (i:Int),.sl (vs.map VS.row),.sl so,.sl (ops.map OpM.row),.int t.k,.int t.n,.str t.s,.sl (t.as.map Tm.row),.str n1,.str n2,.sl (a.map sRow)]=match infL ops (t.as.drop i) (a.drop i) vs with | some v=>some (0,[.sl (v.map VS.row)]) | none=>some (1,[.sl []]):=by
  intro n1 n2 a hal n;induction n with
  | zero =>
   intro i vs hi hb;obtain rfl:i=t.as.length:=by omega
   rw [e338_1_3];simp only [B6,C3,D5,H4,H2,C9,infL]
  | succ n ih2 =>
   intro i vs hi hb;have hlt:i<t.as.length:=by omega
   have hmem:=C0 hlt;rw [C2 hlt] at hb ⊢;simp only [C7,J9] at hb;rw [e338_1_3];by_cases hla:i<a.length
   · have h1:=ih _ hmem a[i] vs (h.sub hmem) (by omega)
     rw [C2 hla];simp only [B6,C3,hlt,H3,H1,inbN,B9,rowAt_map hlt,wrap_succ hlt hlm,hla,rowAt_map hla,Tm.row_eq,sRow,nv0,nvS,dvI,dvB,dvS,dvL,B5,h1,infL,infR];cases hq:infT ops t.as[i] a[i] vs with
     | none=>rfl
     | some v =>
      have hv:=infT_len ops _ _ _ _ hq;have h2:=ih2 (i+1) v (by omega) (by omega)
      simp only [nv0,nvS,dvI,dvB,dvS,dvL,B5,h2,D9,H2]
   · have h1:=ih _ hmem e0 vs (h.sub hmem) (by omega)
     rw [show a.drop i=[] from O2 (by omega)]
     simp only [B6,C3,hlt,H3,H1,inbN,B9,rowAt_map hlt,wrap_succ hlt hlm,hla,H4,H2,Tm.row_eq,sRow,nv0,nvS,dvI,dvB,dvS,dvL,B5,h1,infL,infR];cases hq:infT ops t.as[i] e0 vs with
     | none=>rfl
     | some v =>
      have hv:=infT_len ops _ _ _ _ hq;have h2:=ih2 (i+1) v (by omega) (by omega)
      rw [show a.drop (i+1)=[] from O2 (by omega)] at h2
      simp only [nv0,nvS,dvI,dvB,dvS,dvL,B5,h2,D9,H2]
 have hv0:=hvl vs.length 0 (by omega)
 have ha0:=fun n1 n2 a ha=>hal n1 n2 a ha t.as.length 0 vs (by omega) (by rw [D1]; omega)
 simp only [D1,C4] at hv0 ha0;rw [e338_1_0];unfold infR;rw [infT_eq];by_cases h1:t.k=1
 · rw [H5 h1,H5 h1]
   simp only [h1] at hv0;have hb2:G9 (vs.length+1) M63=true:=nb (by omega)
   simp only [B6,h1,H3,H1,hv0];cases hq:vs.find? (fun v=>decide (v.1=t.s)) with
   | none=>simp only [nv0,nvS,dvI,dvB,dvS,dvL,B5,D7,H1,H2,B6,C8,D6,E8,hb2,E6]; rfl
   | some v =>
    simp only [nv0,nvS,dvI,dvB,dvS,dvL,B5,D7,H1,H2,show E3 1 0=false from rfl]
    by_cases hq2:v.2=x <;> simp [hq2]
 · rw [H6 h1,H6 h1]
   by_cases h2:t.k=2
   · simp only [h2] at ha0
     simp only [B6,h2,H3,H1,if_true,r239 so ops ho,nv0,nvS,dvI,dvB,dvS,dvL,B5];cases hf:findO ops t.s with
     | none =>
      simp only [foRes,nv0,nvS,dvI,dvB,dvS,dvL,B5];rw [show ([]:Rows)=([]:List ByteArray).map sRow from rfl,ha0 e0 e0 [] (by simp)]
      cases infL ops t.as [] vs <;> rfl
     | some o =>
      have hok:o.ok:=findO_ok ho.a hf;simp only [foRes,nv0,nvS,dvI,dvB,dvS,dvL,B5];rw [ha0 o.n o.r o.a hok];cases infL ops t.as o.a vs <;> rfl
   · simp only [B6,h1,h2,H4,H2,if_false]
     rw [show ([]:Rows)=([]:List ByteArray).map sRow from rfl,ha0 e0 e0 [] (by simp)]
     cases infL ops t.as [] vs <;> rfl
theorem r309 (so:Rows) (ops:List OpM) (ho:SigB ops) (t:Tm) (h:Wt t) (hn:t.nodes<=1048577) (x:ByteArray):rn ⟨309,0,0⟩ [.sl so,.sl (ops.map OpM.row),.int t.k,.int t.n,.str t.s,.sl (t.as.map Tm.row),.str x]=some (0,infVR (infV ops t x)):=by
 have h1:=inferI so ops ho t x [] h (by simp; omega)
 rw [E0] at h1;rw [e309_0_0,h1];unfold infR infV;cases hq:infT ops t x [] with
 | none=>rfl
 | some vs =>
  have hv:=infT_len ops _ _ _ _ hq;rw [D6] at hv;have h2:=r167 so ops ho vs (by omega) t h
  simp only [nv0,nvS,dvI,dvB,dvS,dvL,B5,h2];by_cases hx:x=e0
  · simp [hx,infVR]
  · by_cases hs:sortT ops vs t=x <;> simp [hx,hs,infVR]
theorem r302 (so:Rows) (ops:List OpM) (ho:SigB ops) (t:Tm) (h:Wt t) (hn:t.nodes<=1048577) (x:ByteArray):rn ⟨302,0,0⟩ [.sl so,.sl (ops.map OpM.row),.int t.k,.int t.n,.str t.s,.sl (t.as.map Tm.row),.str x]=some (0,infVR (infV ops t x)):=by
 have h1:=inferS so ops ho t x [] h (by simp; omega)
 rw [E0] at h1;rw [e302_0_0,h1];unfold infR infV;cases hq:infT ops t x [] with
 | none=>rfl
 | some vs =>
  have hv:=infT_len ops _ _ _ _ hq;rw [D6] at hv;have h2:=r156 so ops ho vs (by omega) t h
  simp only [nv0,nvS,dvI,dvB,dvS,dvL,B5,h2];by_cases hx:x=e0
  · simp [hx,infVR]
  · by_cases hs:sortT ops vs t=x <;> simp [hx,hs,infVR]
end Go.Q.S
end
section
namespace Go.Q.S
open Go Go.Q Go.Proofs
def opOK (so:List ByteArray) (o:OpM):Bool:=isNm o.n&&(!isB o.n&&(decide (o.a.length<=3)&&(o.a.all (fun x=>decide (x=wordS)||hasS so x)&&(decide (o.r=wordS)||hasS so o.r))))
theorem sigOK_eq (so:List ByteArray) (ops:List OpM):sigOK so ops=(decide (so.length<=4)&&(dis so&&(decide (ops.length<=16)&&((so.all fun x=>isNm x&&!decide (x=wordS))&&(ops.all (opOK so)&&dis (ops.map (·.n))))))):=rfl
theorem r241 (so:List ByteArray) (hso:so.length<=1048576) (hss:∀ x∈so,x.size<=maxLen) (ops:List OpM) (ho:SigB ops) (hon:∀ o∈ops,o.n.size<=maxLen):rn ⟨241,0,0⟩ [.sl (so.map sRow),.sl (ops.map OpM.row)]=some (0,[.bool (sigOK so ops)]):=by
 have hm:=ho.l;have hl1:∀ n i,i+n=so.length->rn ⟨241,0,1⟩ [.sl (so.map sRow),.int (so.length:Int),.int (i:Int),.sl (so.map sRow),.sl (ops.map OpM.row)]=bif (so.drop i).all (fun x=>isNm x&&!decide (x=wordS)) then some (0,[.sl (so.map sRow),.sl (ops.map OpM.row)]) else some (1,[]):=by
  intro n;induction n with
  | zero =>
   intro i hi;obtain rfl:i=so.length:=by omega
   rw [e241_0_1];simp only [B6,C3,D5,H4,H2,C9,N2,H1]
  | succ n ih =>
   intro i hi;have hlt:i<so.length:=by omega
   rw [e241_0_1,C2 hlt];have h1:=r306 so[i] (hss _ (C0 hlt));simp only [B6,C3,hlt,H3,H1,inbN,B9,rowAt_map hlt,wrap_succ hlt (maxB (by omega)),sRow,nv0,nvS,dvI,dvB,dvS,dvL,B5,h1,ih (i+1) (by omega),K0]
   cases isNm so[i]
   · rfl
   · by_cases hq:so[i]=wordS <;> simp [hq]
 have hl5:∀ (o:OpM),o.a.length<=1048576->∀ (x0:Rows) (x1 x2:Int) (x3:ByteArray) (x4:Bool) (x5:Rows) (x6:Int) (x7:Bool) (x11 x12:Rows) (x13:ByteArray) (x14:Rows) (x15:ByteArray),∀ n i,i+n=(o.a++[o.r]).length->rn ⟨241,0,5⟩ [.sl x0,.int x1,.int x2,.str x3,.bool x4,.sl x5,.int x6,.bool x7,.int ((o.a++[o.r]).length:Int),.int (i:Int),.sl (so.map sRow),.sl x11,.sl x12,.str x13,.sl x14,.str x15,.sl ((o.a++[o.r]).map sRow)]=bif ((o.a++[o.r]).drop i).all (fun x=>decide (x=wordS)||hasS so x) then some (0,[.sl x0,.int x1,.int x2,.str x3,.bool x4,.sl x5,.int x6,.bool x7,.sl (so.map sRow),.sl x11,.sl x12,.str x13,.sl x14,.str x15]) else some (1,[]):=by
  intro o hoa x0 x1 x2 x3 x4 x5 x6 x7 x11 x12 x13 x14 x15;have hL:(o.a++[o.r]).length<=1048577:=by simp; omega
  generalize o.a++[o.r]=l at hL ⊢;intro n;induction n with
  | zero =>
   intro i hi;obtain rfl:i=l.length:=by omega
   rw [e241_0_5];simp only [B6,C3,D5,H4,H2,C9,N2,H1]
  | succ n ih =>
   intro i hi;have hlt:i<l.length:=by omega
   rw [e241_0_5,C2 hlt];have h1:=rContS so (maxB (by omega)) l[i]
   simp only [B6,C3,hlt,H3,H1,inbN,B9,rowAt_map hlt,wrap_succ hlt (maxB (by omega)),sRow,nv0,nvS,dvI,dvB,dvS,dvL,B5,h1,ih (i+1) (by omega),K0]
   by_cases hq:l[i]=wordS
   · simp [hq]
   · cases hasS so l[i] <;> simp [hq]
 have hl3:∀ n i (acc:List ByteArray),i+n=ops.length->acc.length<=i->rn ⟨241,0,3⟩ [.sl (ops.map OpM.row),.int (ops.length:Int),.int (i:Int),.sl (so.map sRow),.sl (ops.map OpM.row),.sl (acc.map sRow)]=bif (ops.drop i).all (opOK so) then some (0,[.sl ((acc++(ops.drop i).map (·.n)).map sRow)]) else some (1,[]):=by
  intro n;induction n with
  | zero =>
   intro i acc hi ha;obtain rfl:i=ops.length:=by omega
   rw [e241_0_3];simp only [B6,C3,D5,H4,H2,C9,N2,H1,E0,J4]
  | succ n ih =>
   intro i acc hi ha;have hlt:i<ops.length:=by omega
   have hmem:=C0 hlt;rw [e241_0_3,C2 hlt];have h1:=r306 ops[i].n (hon _ hmem);have hoa:ops[i].a.length<=1048576:=ho.a _ hmem;have h2:=rCloneS (ops[i].a.map sRow) (by rw [B6]; omega)
   have hb:G9 (ops[i].a.length+1) M63=true:=nb (by omega)
   have hb2:G9 (acc.length+1) M63=true:=nb (by omega)
   have h5:=fun x0 x1 x2 x3 x4 x5 x6 x7 x11 x12 x13 x14 x15=>hl5 ops[i] hoa x0 x1 x2 x3 x4 x5 x6 x7 x11 x12 x13 x14 x15 (ops[i].a++[ops[i].r]).length 0 (by omega)
   simp only [D1,C4,F2,C8,D6,E8,E6,C7,E0,sRow] at h5;have h6:=ih (i+1) (acc++[ops[i].n]) (by omega) (by simp; omega)
   simp only [E6,C7,E0,sRow] at h6;simp only [B6,C3,hlt,H3,H1,inbN,B9,rowAt_map hlt,wrap_succ hlt (maxB (by omega)),OpM.row,nv0,nvS,dvI,dvB,dvS,dvL,B5,h1,r244,h2,C8,D6,E8,hb,F2,K0]
   rw [show opOK so ops[i]=(isNm ops[i].n&&(!isB ops[i].n&&(decide (ops[i].a.length<=3)&&(ops[i].a.all (fun x=>decide (x=wordS)||hasS so x)&&(decide (ops[i].r=wordS)||hasS so ops[i].r))))) from rfl]
   cases isNm ops[i].n
   · rfl
   · cases isB ops[i].n
     · by_cases h3:ops[i].a.length<=3
       · have h3':¬((3:Int)<(ops[i].a.length:Int)):=by omega
         simp only [h3,h3',H3,H4,H1,H2,D9,N1,F5];rw [h5,List.all_append];simp only [K0,N2,J8];cases (ops[i].a.all (fun x=>decide (x=wordS)||hasS so x)&&(decide (ops[i].r=wordS)||hasS so ops[i].r)) with
         | false=>rfl
         | true =>
          simp only [H1,nv0,nvS,dvI,dvB,dvS,dvL,B5,D7,H1,H2,B6,hb2,wrap_succ hlt (maxB (by omega)),h6,F5]
          simp only [E6,C7,E1,D4,D0,sRow]
       · have h3':((3:Int)<(ops[i].a.length:Int)):=by omega
         simp [h3,h3']
     · rfl
 have h1:=hl1 so.length 0 (by omega)
 have h3:=hl3 ops.length 0 [] (by omega) (K4 _)
 simp only [D1,C4,E0,D0] at h1 h3;have hd:=r163 so (by omega)
 have hd2:=r163 (ops.map (·.n)) (by rw [B6]; omega)
 rw [e241_0_0,sigOK_eq];simp only [B6,hd,nv0,nvS,dvI,dvB,dvS,dvL,B5];by_cases hs:so.length<=4
 · have hs':¬((4:Int)<(so.length:Int)):=by omega
   simp only [hs,hs',H3,H4,H2,F5];cases dis so
   · rfl
   · by_cases hs2:ops.length<=16
     · have hs2':¬((16:Int)<(ops.length:Int)):=by omega
       simp only [hs2,hs2',H3,H4,H2,F5,D9,h1];cases so.all (fun x=>isNm x&&!decide (x=wordS))
       · rfl
       · simp only [H1,nv0,nvS,dvI,dvB,dvS,dvL,B5,D7,H1,H2,B6,h3,F5]
         cases ops.all (opOK so)
         · rfl
         · simp only [H1,nv0,nvS,dvI,dvB,dvS,dvL,B5,D7,H1,H2,hd2,F5]
     · have hs2':((16:Int)<(ops.length:Int)):=by omega
       simp [hs2,hs2']
 · have hs':((4:Int)<(so.length:Int)):=by omega
   simp [hs,hs']
theorem r339 (so:List ByteArray) (hso:so.length<=1048576) (ops:Rows) (x:ByteArray):rn ⟨339,0,0⟩ [.sl (so.map sRow),.sl ops,.str x]=some (0,[.bool (decide (x=wordS)||hasS so x)]):=by
 have h1:=r235 so (maxB (by omega)) x
 rw [e339_0_0];simp only [h1,nv0,nvS,dvI,dvB,dvS,dvL,B5,ixS_has];by_cases hq:x=wordS <;> simp [hq]
theorem r303 (so:List ByteArray) (hso:so.length<=1048576) (ops:Rows) (o:OpM) (hoa:o.a.length<=1048576) (hon:o.n.size<=maxLen):rn ⟨303,0,0⟩ [.sl (so.map sRow),.sl ops,.str o.n,.sl (o.a.map sRow),.str o.r]=some (0,[.bool (opOK so o)]):=by
 have hl:∀ n i,i+n=o.a.length->rn ⟨303,0,1⟩ [.int (i:Int),.sl (so.map sRow),.sl ops,.str o.n,.sl (o.a.map sRow),.str o.r]=bif (o.a.drop i).all (fun x=>decide (x=wordS)||hasS so x) then some (0,[.sl (so.map sRow),.sl ops,.str o.n,.sl (o.a.map sRow),.str o.r]) else some (1,[]):=by
  intro n;induction n with
  | zero =>
   intro i hi;obtain rfl:i=o.a.length:=by omega
   rw [e303_0_1];simp only [B6,C3,D5,H4,H2,C9,N2,H1]
  | succ n ih =>
   intro i hi;have hlt:i<o.a.length:=by omega
   rw [e303_0_1,C2 hlt];have h1:=r339 so hso ops o.a[i];simp only [B6,C3,hlt,H3,H1,inbN,B9,rowAt_map hlt,wrap_succ hlt (maxB (by omega)),sRow,nv0,nvS,dvI,dvB,dvS,dvL,B5,h1,ih (i+1) (by omega),K0]
   cases (decide (o.a[i]=wordS)||hasS so o.a[i]) <;> rfl
 have h:=hl o.a.length 0 (by omega)
 simp only [D1,C4] at h;have hn:=r300 o.n hon;rw [e303_0_0,h];unfold opOK;cases (o.a.all fun x=>decide (x=wordS)||hasS so x) with
 | false=>cases isNm o.n <;> cases isB o.n <;> cases decide (o.a.length<=3) <;> rfl
 | true =>
  have i3:((o.a.length:Int)<=3)↔o.a.length<=3:=by omega
  simp only [H1,nv0,nvS,dvI,dvB,dvS,dvL,B5,D7,H1,H2,hn,r265,r339 so hso ops,B6,i3,F5];cases isNm o.n <;> cases isB o.n <;> cases decide (o.a.length<=3) <;> rfl
theorem r228 (so:List ByteArray) (hso:so.length<=1048576) (hss:∀ x∈so,x.size<=maxLen) (ops:List OpM) (ho:SigB ops) (hon:∀ o∈ops,o.n.size<=maxLen):rn ⟨228,0,0⟩ [.sl (so.map sRow),.sl (ops.map OpM.row)]=some (0,[.bool (sigOK so ops)]):=by
 have hm:=ho.l;have hl1:∀ n i,i+n=so.length->rn ⟨228,0,1⟩ [.int (i:Int),.sl (so.map sRow),.sl (ops.map OpM.row),.sl []]=bif (so.drop i).all (fun x=>isNm x&&!decide (x=wordS)) then some (0,[.sl (so.map sRow),.sl (ops.map OpM.row),.sl []]) else some (1,[]):=by
  intro n;induction n with
  | zero =>
   intro i hi;obtain rfl:i=so.length:=by omega
   rw [e228_0_1];simp only [B6,C3,D5,H4,H2,C9,N2,H1]
  | succ n ih =>
   intro i hi;have hlt:i<so.length:=by omega
   rw [e228_0_1,C2 hlt];have h1:=r300 so[i] (hss _ (C0 hlt));simp only [B6,C3,hlt,H3,H1,inbN,B9,rowAt_map hlt,wrap_succ hlt (maxB (by omega)),sRow,nv0,nvS,dvI,dvB,dvS,dvL,B5,h1,ih (i+1) (by omega),K0]
   cases isNm so[i]
   · rfl
   · by_cases hq:so[i]=wordS <;> simp [hq]
 have hl3:∀ n i (acc:List ByteArray),i+n=ops.length->acc.length<=i->rn ⟨228,0,3⟩ [.int (i:Int),.sl (so.map sRow),.sl (ops.map OpM.row),.sl (acc.map sRow)]=bif (ops.drop i).all (opOK so) then some (0,[.sl (so.map sRow),.sl (ops.map OpM.row),.sl ((acc++(ops.drop i).map (·.n)).map sRow)]) else some (1,[]):=by
  intro n;induction n with
  | zero =>
   intro i acc hi ha;obtain rfl:i=ops.length:=by omega
   rw [e228_0_3];simp only [B6,C3,D5,H4,H2,C9,N2,H1,E0,J4]
  | succ n ih =>
   intro i acc hi ha;have hlt:i<ops.length:=by omega
   have hmem:=C0 hlt;rw [e228_0_3,C2 hlt];have h1:=r303 so hso (ops.map OpM.row) ops[i] (ho.a _ hmem) (hon _ hmem);have hb2:G9 (acc.length+1) M63=true:=nb (by omega)
   have h6:=ih (i+1) (acc++[ops[i].n]) (by omega) (by simp; omega)
   simp only [E6,C7,E0,sRow] at h6;simp only [B6,C3,hlt,H3,H1,inbN,B9,rowAt_map hlt,wrap_succ hlt (maxB (by omega)),OpM.row,nv0,nvS,dvI,dvB,dvS,dvL,B5,h1,C8,D6,E8,hb2,h6,K0]
   cases opOK so ops[i] with
   | false=>rfl
   | true=>simp only [E6,C7,E1,D4,D0,sRow,D9,H2,H1,F5]
 have h1:=hl1 so.length 0 (by omega)
 have h3:=hl3 ops.length 0 [] (by omega) (K4 _)
 simp only [D1,C4,E0,D0] at h1 h3;have hd:=r229 so (maxB (by omega))
 have hd2:=r229 (ops.map (·.n)) (by rw [B6]; exact maxB (by omega))
 rw [e228_0_0,sigOK_eq,h1];have i1:((so.length:Int)<=4)↔so.length<=4:=by omega
 have i2:((ops.length:Int)<=16)↔ops.length<=16:=by omega
 cases so.all (fun x=>isNm x&&!decide (x=wordS)) with
 | false=>cases decide (so.length<=4) <;> cases dis so <;> cases decide (ops.length<=16) <;> rfl
 | true =>
  simp only [H1,nv0,nvS,dvI,dvB,dvS,dvL,B5,D7,H1,H2,h3,F5];cases ops.all (opOK so) with
  | false=>cases decide (so.length<=4) <;> cases dis so <;> cases decide (ops.length<=16) <;> rfl
  | true =>
   simp only [H1,nv0,nvS,dvI,dvB,dvS,dvL,B5,D7,H1,H2,B6,hd,hd2,i1,i2,F5];cases decide (so.length<=4) <;> cases dis so <;> cases decide (ops.length<=16) <;> rfl
end Go.Q.S
end
section
namespace Go.Q.S
open Go Go.Q Go.Proofs
theorem r308:∀ t:Tm,Wt t->rn ⟨308,0,0⟩ [.int t.k,.int t.n,.str t.s,.sl (t.as.map Tm.row)]=some (0,[.bool (lackB t)]):=Tm.ind fun t ih h=>by
 have hlm:=h.l;have hl:∀ n i,i+n=t.as.length->rn ⟨308,0,1⟩ [.sl (t.as.map Tm.row),.int (t.as.length:Int),.int (i:Int)]=bif lackBL (t.as.drop i) then some (0,[]) else some (1,[]):=by
  intro n;induction n with
  | zero =>
   intro i hi;obtain rfl:i=t.as.length:=by omega
   rw [e308_0_1];simp only [B6,C3,D5,H4,H2,C9,lackBL,H1]
  | succ n ih2 =>
   intro i hi;have hlt:i<t.as.length:=by omega
   rw [e308_0_1,C2 hlt];have h1:=ih _ (C0 hlt) (h.sub (C0 hlt));simp only [B6,C3,hlt,H3,H1,inbN,B9,rowAt_map hlt,wrap_succ hlt hlm,Tm.row_eq,nv0,nvS,dvI,dvB,dvS,dvL,B5,h1,ih2 (i+1) (by omega),lackBL]
   cases lackB t.as[i] <;> simp
 have h0:=hl t.as.length 0 (by omega)
 simp only [D1,C4] at h0;rw [e308_0_0,lackB_eq];simp only [B6,h0,r244,nv0,nvS,dvI,dvB,dvS,dvL,B5];by_cases h2:t.k=2 <;> cases isB t.s <;> cases lackBL t.as <;> simp [h2] <;> rfl
theorem r301:∀ t:Tm,Wt t->rn ⟨301,0,0⟩ [.int t.k,.int t.n,.str t.s,.sl (t.as.map Tm.row)]=some (0,[.bool (!lackB t)]):=Tm.ind fun t ih h=>by
 have hlm:=h.l;have hl:∀ n i,i+n=t.as.length->rn ⟨301,0,1⟩ [.int (i:Int),.int t.k,.int t.n,.str t.s,.sl (t.as.map Tm.row)]=bif lackBL (t.as.drop i) then some (0,[.int t.k,.int t.n,.str t.s,.sl (t.as.map Tm.row)]) else some (1,[]):=by
  intro n;induction n with
  | zero =>
   intro i hi;obtain rfl:i=t.as.length:=by omega
   rw [e301_0_1];simp only [B6,C3,D5,H4,H2,C9,lackBL,H1]
  | succ n ih2 =>
   intro i hi;have hlt:i<t.as.length:=by omega
   rw [e301_0_1,C2 hlt];have h1:=ih _ (C0 hlt) (h.sub (C0 hlt));simp only [B6,C3,hlt,H3,H1,inbN,B9,rowAt_map hlt,wrap_succ hlt hlm,Tm.row_eq,nv0,nvS,dvI,dvB,dvS,dvL,B5,h1,ih2 (i+1) (by omega),lackBL]
   cases lackB t.as[i] <;> simp
 have h0:=hl t.as.length 0 (by omega)
 simp only [D1,C4] at h0;rw [e301_0_0,lackB_eq,h0];cases lackBL t.as with
 | false=>cases (!(decide (t.k=2)&&isB t.s)) <;> rfl
 | true =>
  simp only [H1,nv0,nvS,dvI,dvB,dvS,dvL,B5,D7,H1,H2,r265];by_cases h2:t.k=2 <;> cases isB t.s <;> simp [h2]
theorem r166 (t:Tm) (h:t.nodes<=1048577) (ns:List ByteArray) (hn:ns.length<=maxLen):rn ⟨166,0,0⟩ [.int t.k,.int t.n,.str t.s,.sl (t.as.map Tm.row),.sl (ns.map sRow)]=some (0,[.bool (within t ns)]):=by
 have h1:=r252 t h;have h2:=r251 t.names ns (by have:=names_nodes t; omega) hn
 rw [e166_0_0];simp only [h1,nv0,nvS,dvI,dvB,dvS,dvL,B5,h2,B6];have h3:=wo_len t.names ns;have i1:(((wo t.names ns).length:Int)=0)↔(wo t.names ns).length=0:=by omega
 simp only [i1];rw [h3]; rfl
theorem r154 (t:Tm) (h:t.nodes<=1048577):rn ⟨154,0,0⟩ [.int t.k,.int t.n,.str t.s,.sl (t.as.map Tm.row)]=some (0,[.sl ((srtN t.names).map sRow)]):=by
 have hn:=names_nodes t;have h1:=r237 t [] h (by simp; omega)
 have h2:=r236 t.names (by omega)
 rw [e154_0_0];rw [D0] at h1;simp only [h1,nv0,nvS,dvI,dvB,dvS,dvL,B5,h2]
theorem r324 (k:Int):rn ⟨324,0,0⟩ [.int k]=some (0,[.bool (decide (1<=k)&&decide (k<=3))]):=by
 rw [e324_0_0];cases decide (1<=k) <;> rfl
theorem r288 (so:Rows) (ops:List OpM) (ho:SigB ops) (vs:List VS) (hv:vs.length<=1099511627776) (ns:List ByteArray) (hn:ns.length<=maxLen) (hvn:∀ v∈vs,v.1∈ns) (gs:List Gu) (hg:gs.length<=1048576) (hgb:∀ g∈gs,GuB g):rn ⟨288,0,0⟩ [.sl so,.sl (ops.map OpM.row),.sl (gs.map Gu.row),.sl (vs.map VS.row),.sl (ns.map sRow)]=some (0,[.bool (gusOK ops vs gs)]):=by
 have hl:∀ n i,i+n=gs.length->rn ⟨288,0,1⟩ [.sl (gs.map Gu.row),.sl (vs.map VS.row),.sl (ns.map sRow),.sl (gs.map Gu.row),.int (gs.length:Int),.int (i:Int),.sl so,.sl (ops.map OpM.row)]=bif (gs.drop i).all (guOK ops vs) then some (0,[.sl (gs.map Gu.row)]) else some (1,[]):=by
  intro n;induction n with
  | zero =>
   intro i hi;obtain rfl:i=gs.length:=by omega
   rw [e288_0_1];simp only [B6,C3,D5,H4,H2,C9,N2,H1]
  | succ n ih =>
   intro i hi;have hlt:i<gs.length:=by omega
   rw [e288_0_1,C2 hlt];have hb:=hgb _ (C0 hlt);have hw:guOK ops vs gs[i]=true->_:=fun h=>guOK_within hvn h
   have h1:=r165 gs[i].l (J6 hb.ln (by decide)) hb.wl
   have h2:=r165 gs[i].r (J6 hb.rn (by decide)) hb.wr
   have h3:=r166 gs[i].l hb.ln ns hn;have h4:=r166 gs[i].r hb.rn ns hn;have h5:=r167 so ops ho vs hv gs[i].l hb.wl;have h6:=r167 so ops ho vs hv gs[i].r hb.wr;simp only [B6,C3,hlt,H3,H1,inbN,B9,rowAt_map hlt,wrap_succ hlt (maxB (by omega)),Gu.row,nv0,nvS,dvI,dvB,dvS,dvL,B5,h1,h2,h3,h4,h5,h6,r324,ih (i+1) (by omega),K0]
   unfold guOK at hw ⊢;generalize (decide (1<=gs[i].k)&&decide (gs[i].k<=3))=bk at hw ⊢;generalize gs[i].l.valid=b1 at hw ⊢;generalize gs[i].r.valid=b2 at hw ⊢;generalize within gs[i].l ns=w1 at hw ⊢;generalize within gs[i].r ns=w2 at hw ⊢;generalize sortT ops vs gs[i].l=s1 at hw ⊢;generalize sortT ops vs gs[i].r=s2 at hw ⊢;cases bk
   · rfl
   · cases b1
     · rfl
     · cases b2
       · rfl
       · by_cases q1:s1=e0
         · cases w1 <;> cases w2 <;> simp [q1]
         · by_cases q2:s1=s2
           · by_cases q3:gs[i].k=3
             · by_cases q4:s1=wordS
               · have:=hw (by simp [q1,<- q2,q3,q4])
                 simp [this.1,this.2,q1,<- q2,q3,q4]
               · cases w1 <;> cases w2 <;> simp [q1,<- q2,q3,q4]
             · have:=hw (by simp [q1,<- q2,q3])
               simp [this.1,this.2,q1,<- q2,q3]
           · cases w1 <;> cases w2 <;> simp [q1,q2]
 have h0:=hl gs.length 0 (by omega)
 simp only [D1,C4] at h0;rw [e288_0_0];simp only [B6,h0,gusOK];cases gs.all (guOK ops vs) with
 | false=>rfl
 | true =>
  have i1:((gs.length:Int)<=2)↔gs.length<=2:=by omega
  simp only [H1,nv0,nvS,dvI,dvB,dvS,dvL,B5,D7,H1,H2,B6,i1,F5]
theorem r321 (k:Int):∃ s,rn ⟨321,0,0⟩ [.int k]=some (0,[.str s])/\decide (s=e0)=!(decide (1<=k)&&decide (k<=3)):=by
 rw [e321_0_0];simp only [rIn,nv0,nvS,dvI,dvB,dvS,dvL,B5];by_cases h1:1<=k
 · by_cases h2:k<=3
   · obtain h | h | h:k=1\/k=2\/k=3:=by omega
     all_goals subst h; exact ⟨_,rfl,by decide⟩
   · refine ⟨e0,by simp [h1,h2],by simp [h1,h2]⟩
 · refine ⟨e0,by simp [h1],by simp [h1]⟩
theorem r279 (so:Rows) (ops:List OpM) (ho:SigB ops) (vs:List VS) (hv:vs.length<=1099511627776) (g:Gu) (hb:GuB g):rn ⟨279,0,0⟩ [.sl so,.sl (ops.map OpM.row),.int g.k,.int (g.l).k,.int (g.l).n,.str (g.l).s,.sl ((g.l).as.map Tm.row),.int (g.r).k,.int (g.r).n,.str (g.r).s,.sl ((g.r).as.map Tm.row),.sl (vs.map VS.row)]=some (0,[.bool (guOK ops vs g)]):=by
 have h1:=r152 g.l (J6 hb.ln (by decide)) hb.wl
 have h2:=r152 g.r (J6 hb.rn (by decide)) hb.wr
 have h5:=r156 so ops ho vs hv g.l hb.wl;have h6:=r156 so ops ho vs hv g.r hb.wr;obtain ⟨s,h7,h8⟩:=r321 g.k;rw [e279_0_0];simp only [nv0,nvS,dvI,dvB,dvS,dvL,B5,h1,h2,h5,h6,h7,h8];unfold guOK;generalize sortT ops vs g.l=s1;generalize sortT ops vs g.r=s2;cases (decide (1<=g.k)&&decide (g.k<=3)) <;> cases g.l.valid <;> cases g.r.valid <;> try rfl
 by_cases q1:s1=e0
 · simp [q1]
 · by_cases q2:s2=s1
   · by_cases q3:g.k=3 <;> simp [q1,q2,q3]
   · have q2':¬ s1=s2:=fun e=>q2 e.symm
     simp [q1,q2,q2']
theorem r242 (so:Rows) (ops:List OpM) (ho:SigB ops) (r:RuM) (hb:RuB r):rn ⟨242,0,0⟩ [.sl so,.sl (ops.map OpM.row),.str r.n,.int (r.l).k,.int (r.l).n,.str (r.l).s,.sl ((r.l).as.map Tm.row),.int (r.r).k,.int (r.r).n,.str (r.r).s,.sl ((r.r).as.map Tm.row),.sl (r.g.map Gu.row)]=some (0,[.bool (rulOK ops r)]):=by
 have h1:=r306 r.n hb.n;have h2:=r165 r.l (J6 hb.ln (by decide)) hb.wl
 have h3:=r308 r.l hb.wl;have h4:=r165 r.r (J6 hb.rn (by decide)) hb.wr
 have h5:=r243 so ops ho r.l.s;have h7:=r252 r.l hb.ln;have hnl:=names_nodes r.l;have hln:=hb.ln;rw [e242_0_0];simp only [h1,h2,h3,h4,h5,nv0,nvS,dvI,dvB,dvS,dvL,B5];unfold rulOK;cases isNm r.n <;> try rfl
 cases r.l.valid <;> try rfl
 by_cases q:r.l.k=2
 · simp only [q,H3,D9,H2,F5]
   cases lackB r.l <;> try rfl
   cases r.r.valid <;> try rfl
   cases hf:findO ops r.l.s with
   | none=>rfl
   | some o =>
    have h6:=r309 so ops ho r.l hb.wl hb.ln o.r;simp only [q] at h6 h7;simp only [foRes,nv0,nvS,dvI,dvB,dvS,dvL,B5,h6,h7,D9,H2,F5];cases hi:infV ops r.l o.r with
    | none=>rfl
    | some vs =>
     have hvl:=infV_len hi;have h8:=r167 so ops ho vs (by omega) r.r hb.wr
     have h9:=r166 r.r hb.rn r.l.names (maxB (by omega))
     have h10:=r288 so ops ho vs (by omega) r.l.names (maxB (by omega)) (infV_names hi) r.g hb.g hb.ga
     simp only [infVR,nv0,nvS,dvI,dvB,dvS,dvL,B5,h8,h9,h10,D9,H2];by_cases q2:sortT ops vs r.r=o.r
     · cases within r.r r.l.names <;> simp [q2]
     · simp [q2]
 · simp [q]
theorem r227 (so:Rows) (ops:List OpM) (ho:SigB ops) (r:RuM) (hb:RuB r):rn ⟨227,0,0⟩ [.sl so,.sl (ops.map OpM.row),.str r.n,.int (r.l).k,.int (r.l).n,.str (r.l).s,.sl ((r.l).as.map Tm.row),.int (r.r).k,.int (r.r).n,.str (r.r).s,.sl ((r.r).as.map Tm.row),.sl (r.g.map Gu.row)]=some (0,[.bool (rulOK ops r)]):=by
 have h1:=r300 r.n hb.n;have h2:=r152 r.l (J6 hb.ln (by decide)) hb.wl
 have h3:=r301 r.l hb.wl;have h4:=r152 r.r (J6 hb.rn (by decide)) hb.wr
 have h5:=r239 so ops ho r.l.s;have h7:=r154 r.l hb.ln;have h9:=r154 r.r hb.rn;have hnl:=names_nodes r.l;have hnr:=names_nodes r.r;have hsl:=srtN_len r.l.names;have hsr:=srtN_len r.r.names;have hln:=hb.ln;have hrn:=hb.rn;have hgl:=hb.g;have h10:=r153 (srtN r.r.names) (srtN r.l.names) (by omega) (maxB (by omega))
 have hl:∀ vs:List VS,vs.length<=1099511627776->∀ n i,i+n=r.g.length->rn ⟨227,0,1⟩ [.int (i:Int),.sl so,.sl (ops.map OpM.row),.str r.n,.int (r.l).k,.int (r.l).n,.str (r.l).s,.sl ((r.l).as.map Tm.row),.int (r.r).k,.int (r.r).n,.str (r.r).s,.sl ((r.r).as.map Tm.row),.sl (r.g.map Gu.row),.sl (vs.map VS.row)]=bif (r.g.drop i).all (guOK ops vs) then some (0,[]) else some (1,[]):=by
  intro vs hv n;induction n with
  | zero =>
   intro i hi;obtain rfl:i=r.g.length:=by omega
   rw [e227_0_1];simp only [B6,C3,D5,H4,H2,C9,N2,H1]
  | succ n ih =>
   intro i hi;have hlt:i<r.g.length:=by omega
   rw [e227_0_1,C2 hlt];have h1:=r279 so ops ho vs hv r.g[i] (hb.ga _ (C0 hlt));simp only [B6,C3,hlt,H3,H1,inbN,B9,rowAt_map hlt,wrap_succ hlt (maxB (by omega)),Gu.row,nv0,nvS,dvI,dvB,dvS,dvL,B5,h1,ih (i+1) (by omega),K0]
   cases guOK ops vs r.g[i] <;> simp
 rw [e227_0_0];simp only [h1,h2,h3,h4,h5,nv0,nvS,dvI,dvB,dvS,dvL,B5,B6];unfold rulOK;cases isNm r.n <;> try rfl
 cases r.l.valid <;> try rfl
 by_cases q:r.l.k=2
 · simp only [q,H3,D9,H2,F5,Bool.not_not]
   cases r.r.valid
   · cases lackB r.l <;> rfl
   · cases lackB r.l <;> try rfl
     simp only [D9,H2,F5];by_cases q5:r.g.length<=2
     · have q5':¬((2:Int)<(r.g.length:Int)):=by omega
       cases hf:findO ops r.l.s with
       | none =>
        have h6:=r302 so ops ho r.l hb.wl hb.ln e0;have:infV ops r.l e0=none:=by unfold infV; cases infT ops r.l e0 [] <;> simp
        rw [this] at h6;simp only [q] at h6;simp only [foRes,nv0,nvS,dvI,dvB,dvS,dvL,B5,h6,q5',H4,H2,infVR,N1,H1]
       | some o =>
        have h6:=r302 so ops ho r.l hb.wl hb.ln o.r;simp only [q] at h6 h7 hl;simp only [foRes,nv0,nvS,dvI,dvB,dvS,dvL,B5,h6,q5',H4,H2];cases hi:infV ops r.l o.r with
        | none=>rfl
        | some vs =>
         have hvl:=infV_len hi;have h8:=r156 so ops ho vs (by omega) r.r hb.wr
         have h11:=hl vs (by omega) r.g.length 0 (by omega)
         simp only [D1,C4] at h11;simp only [infVR,nv0,nvS,dvI,dvB,dvS,dvL,B5,h8,h7,h9,h10,B6,h11,D9,H2];by_cases q2:sortT ops vs r.r=o.r
         · have hw:=wo_srt r.r r.l
           cases hw2:within r.r r.l.names with
           | true =>
            rw [hw2] at hw;have:(wo (srtN r.r.names) (srtN r.l.names)).length=0:=hw.2 rfl;simp only [q2,this,H3,D9,H2,C4,Int.lt_irrefl,H4,gusOK,q5,J8,F5];cases r.g.all (guOK ops vs) <;> rfl
           | false =>
            rw [hw2] at hw;have:¬(wo (srtN r.r.names) (srtN r.l.names)).length=0:=fun h=>by have:=hw.1 h; simp at this
            have:0<(wo (srtN r.r.names) (srtN r.l.names)).length:=by omega
            simp [q2,this]
         · simp [q2]
     · have q5':((2:Int)<(r.g.length:Int)):=by omega
       simp only [q5',H3,H1,gusOK,q5,H4,Bool.and_false];cases findO ops r.l.s with
       | none=>rfl
       | some o =>
        dsimp only;cases infV ops r.l o.r <;> rfl
 · cases r.r.valid <;> simp [q]
end Go.Q.S
end
section
namespace Go.Q.S
open Go Go.Q Go.Proofs
def inSt (l:List StM) (x:StM):Bool:=l.any fun y=>decide (y.o=x.o)&&decide (y.a=x.a)
theorem rContSt (l:List StM) (hl:l.length<=maxLen) (x:StM):rn ⟨245,0,0⟩ [.sl (l.map StM.row),.str x.o,.int x.a]=some (0,[.bool (inSt l x)]):=by
 have key:∀ n i,i+n=l.length->(inSt (l.drop i) x=false/\rn ⟨311,0,1⟩ [.sl (l.map StM.row),.int (l.length:Int),.int (i:Int),.str x.o,.int x.a]=some (0,[]))\/(inSt (l.drop i) x=true/\∃ j:Nat,rn ⟨311,0,1⟩ [.sl (l.map StM.row),.int (l.length:Int),.int (i:Int),.str x.o,.int x.a]=some (1,[.int (j:Int)])):=by
  intro n;induction n with
  | zero =>
   intro i hi;obtain rfl:i=l.length:=by omega
   rw [e311_0_1];simp only [B6,C3,D5,H4,H2,C9];exact .inl ⟨rfl,trivial⟩
  | succ n ih =>
   intro i hi;have hlt:i<l.length:=by omega
   rw [e311_0_1,C2 hlt];simp only [B6,C3,hlt,H3,H1,inbN,B9,rowAt_map hlt,wrap_succ hlt hl,StM.row,nv0,nvS,dvI,dvB,dvS,dvL,B5,inSt,List.any_cons];by_cases h1:l[i].o=x.o
   · by_cases h2:l[i].a=x.a
     · right
       refine ⟨by simp [h1,h2],i,by simp [h1,h2]⟩
     · have h2':¬ x.a=l[i].a:=fun e=>h2 e.symm
       have:=ih (i+1) (by omega)
       simpa [h1,h2,h2',inSt] using this
   · have h1':¬ x.o=l[i].o:=fun e=>h1 e.symm
     have:=ih (i+1) (by omega)
     simpa [h1,h1',inSt] using this
 have h:=key l.length 0 (by omega)
 simp only [D1,C4] at h;rw [e245_0_0,e311_0_0];simp only [B6];rcases h with ⟨h1,h2⟩|⟨h1,j,h2⟩
 · rw [h2,h1]; rfl
 · rw [h2,h1]
   simp only [nv0,nvS,dvI,dvB,dvS,dvL,B5,D7,H1,H2,show E3 1 0=false from rfl]
   have:(0:Int)<=(j:Int):=by omega
   simp [this]
theorem stOK_eq (ops:List OpM) (s:StM):stOK ops s=match findO ops s.o with
 | none=>false
 | some o=>!isB s.o&&(decide (0<=s.a)&&decide (s.a<o.a.length)):=rfl
theorem strOK_step (ops:List OpM) (l:List StM) {i:Nat} (h:i<l.length):strOK ops (l.take i) (l.drop i)=(stOK ops l[i]&&(!inSt (l.take i) l[i]&&strOK ops (l.take (i+1)) (l.drop (i+1)))):=by
 rw [C2 h];simp only [strOK,inSt];rw [List.take_add_one,E7 h]; rfl
theorem r162 (d:DfM) (hb:DfB d):rn ⟨162,0,0⟩ [.sl (d.so.map sRow),.sl (d.op.map OpM.row),.sl (d.ru.map RuM.row),.sl (d.st.map StM.row)]=some (0,[.bool d.valid]):=by
 have hrl:=hb.ru;have hsl:=hb.st;have hl1:∀ n i (acc:List ByteArray),i+n=d.ru.length->acc.length<=i->rn ⟨162,0,1⟩ [.sl (d.ru.map RuM.row),.int (d.ru.length:Int),.int (i:Int),.sl (d.so.map sRow),.sl (d.op.map OpM.row),.sl (d.ru.map RuM.row),.sl (d.st.map StM.row),.sl (acc.map sRow)]=bif (d.ru.drop i).all (rulOK d.op) then some (0,[.sl (d.so.map sRow),.sl (d.op.map OpM.row),.sl (d.ru.map RuM.row),.sl (d.st.map StM.row),.sl ((acc++(d.ru.drop i).map (·.n)).map sRow)]) else some (1,[]):=by
  intro n;induction n with
  | zero =>
   intro i acc hi ha;obtain rfl:i=d.ru.length:=by omega
   rw [e162_0_1];simp only [B6,C3,D5,H4,H2,C9,N2,H1,E0,J4]
  | succ n ih =>
   intro i acc hi ha;have hlt:i<d.ru.length:=by omega
   rw [e162_0_1,C2 hlt];have h1:=r242 (d.so.map sRow) d.op hb.op d.ru[i] (hb.rua _ (C0 hlt));have hb2:G9 (acc.length+1) M63=true:=nb (by omega)
   have h6:=ih (i+1) (acc++[d.ru[i].n]) (by omega) (by simp; omega)
   simp only [E6,C7,E0,sRow] at h6;simp only [B6,C3,hlt,H3,H1,inbN,B9,rowAt_map hlt,wrap_succ hlt (maxB (by omega)),RuM.row,nv0,nvS,dvI,dvB,dvS,dvL,B5,h1,C8,D6,E8,hb2,h6,K0]
   cases rulOK d.op d.ru[i] with
   | false=>rfl
   | true=>simp only [E6,C7,E1,D4,D0,sRow,D9,H2,H1,F5]
 have hl3:∀ (x5 x7:Rows) n i,i+n=d.st.length->rn ⟨162,0,3⟩ [.sl (d.st.map StM.row),.int (d.st.length:Int),.int (i:Int),.sl (d.so.map sRow),.sl (d.op.map OpM.row),.sl x5,.sl (d.st.map StM.row),.sl x7]=bif strOK d.op (d.st.take i) (d.st.drop i) then some (0,[.sl x7]) else some (1,[]):=by
  intro x5 x7 n;induction n with
  | zero =>
   intro i hi;obtain rfl:i=d.st.length:=by omega
   rw [e162_0_3];simp only [B6,C3,D5,H4,H2,C9,strOK,H1]
  | succ n ih =>
   intro i hi;have hlt:i<d.st.length:=by omega
   rw [e162_0_3,strOK_step d.op d.st hlt,stOK_eq];have h1:=r243 (d.so.map sRow) d.op hb.op d.st[i].o;have h3:=rContSt (d.st.take i) (maxB (by rw [List.length_take]; omega)) d.st[i]
   simp only [B6,C3,hlt,H3,H1,inbN,B9,rowAt_map hlt,wrap_succ hlt (maxB (by omega)),StM.row,nv0,nvS,dvI,dvB,dvS,dvL,B5,h1,r244,ih (i+1) (by omega)]
   cases hf:findO d.op d.st[i].o with
   | none=>rfl
   | some o =>
    simp only [foRes,nv0,nvS,dvI,dvB,dvS,dvL,B5,B6,D9,H2];cases isB d.st[i].o
    · by_cases q1:0<=d.st[i].a
      · have q1':¬ d.st[i].a<0:=by omega
        by_cases q2:d.st[i].a<o.a.length
        · have q2':¬(o.a.length:Int)<=d.st[i].a:=by omega
          have q3:(0:Int)<=(i:Int):=by omega
          have q4:(i:Int)<=(d.st.length:Int):=by omega
          simp only [q1,q1',q2,q2',q3,q4,Int.le_refl,H3,H4,H1,H2,J8,N1,F5,B9,show P8 0=0 from rfl,D1,<- List.map_take,h3,nv0,nvS,dvI,dvB,dvS,dvL,B5]
          cases inSt (d.st.take i) d.st[i] <;> simp
        · have q2':(o.a.length:Int)<=d.st[i].a:=by omega
          simp [q1,q1',q2,q2']
      · have q1':d.st[i].a<0:=by omega
        simp [q1,q1']
    · rfl
 have hd:=r163 (d.ru.map (·.n)) (by rw [B6]; omega)
 have hg:=r241 d.so hb.so hb.sos d.op hb.op hb.opn;have h1:=hl1 d.ru.length 0 [] (by omega) (K4 _)
 have h3:=fun x5 x7=>hl3 x5 x7 d.st.length 0 (by omega)
 simp only [D1,T2,C4,E0,D0] at h1 h3;rw [e162_0_0];simp only [B6,hg,nv0,nvS,dvI,dvB,dvS,dvL,B5];unfold DfM.valid;cases sigOK d.so d.op
 · rfl
 · by_cases q1:d.ru.length<=16
   · have q1':¬((16:Int)<(d.ru.length:Int)):=by omega
     by_cases q2:d.st.length<=8
     · have q2':¬((8:Int)<(d.st.length:Int)):=by omega
       simp only [q1,q1',q2,q2',H3,H4,H1,H2,F5,D9,h1];cases d.ru.all (rulOK d.op)
       · rfl
       · simp only [H1,nv0,nvS,dvI,dvB,dvS,dvL,B5,D7,H1,H2,B6,h3,F5]
         cases strOK d.op [] d.st
         · rfl
         · simp only [H1,nv0,nvS,dvI,dvB,dvS,dvL,B5,D7,H1,H2,hd,F5]
     · have q2':((8:Int)<(d.st.length:Int)):=by omega
       simp [q1,q1',q2,q2']
   · have q1':((16:Int)<(d.ru.length:Int)):=by omega
     simp [q1,q1']
theorem r230 (d:DfM) (hb:DfB d):rn ⟨230,0,0⟩ [.sl (d.so.map sRow),.sl (d.op.map OpM.row),.sl (d.ru.map RuM.row),.sl (d.st.map StM.row)]=some (0,[.bool (strOK d.op [] d.st&&decide (d.st.length<=8))]):=by
 have hsl:=hb.st;have hl3:∀ (x0:Nat),x0<=d.st.length->∀ (x:StM) (x2:ByteArray) (x3:Bool) (x4 x5 x6:Int) (x7 x8:Bool) (x15 x16:ByteArray) (x17:Rows),∀ n j,j+n=x0->rn ⟨230,0,3⟩ [.int (x0:Int),.int (j:Int),.str x2,.bool x3,.int x4,.int x5,.int x6,.bool x7,.bool x8,.sl (d.so.map sRow),.sl (d.op.map OpM.row),.sl (d.ru.map RuM.row),.sl (d.st.map StM.row),.str x.o,.int x.a,.str x15,.str x16,.sl x17]=bif inSt ((d.st.take x0).drop j) x then some (1,[]) else some (0,[.int (x0:Int),.str x2,.bool x3,.int x4,.int x5,.int x6,.bool x7,.bool x8,.sl (d.so.map sRow),.sl (d.op.map OpM.row),.sl (d.ru.map RuM.row),.sl (d.st.map StM.row),.str x.o,.int x.a,.str x15,.str x16,.sl x17]):=by
  intro x0 hx0 x x2 x3 x4 x5 x6 x7 x8 x15 x16 x17 n;induction n with
  | zero =>
   intro j hj;obtain rfl:j=x0:=by omega
   rw [e230_0_3];have:((d.st.take j).drop j)=[]:=O2 (by rw [List.length_take]; omega)
   simp only [this,Int.lt_irrefl,H4,H2,inSt,List.any_nil]
  | succ n ih =>
   intro j hj;have hlt0:j<(d.st.take x0).length:=by rw [List.length_take]; omega
   have hlt:j<d.st.length:=by omega
   have hltx:j<x0:=by omega
   rw [e230_0_3,C2 hlt0,List.getElem_take];simp only [B6,C3,hlt,H3,H1,inbN,B9,rowAt_map hlt,wrap_succ hlt (maxB (by omega)),hltx,StM.row,nv0,nvS,dvI,dvB,dvS,dvL,B5,ih (j+1) (by omega)]
   simp only [inSt,List.any_cons];by_cases h1:d.st[j].o=x.o
   · by_cases h2:d.st[j].a=x.a <;> simp [h1,h2]
   · simp [h1]
 have hl1:∀ n i,i+n=d.st.length->rn ⟨230,0,1⟩ [.int (i:Int),.sl (d.so.map sRow),.sl (d.op.map OpM.row),.sl (d.ru.map RuM.row),.sl (d.st.map StM.row)]=bif strOK d.op (d.st.take i) (d.st.drop i) then some (0,[.sl (d.so.map sRow),.sl (d.op.map OpM.row),.sl (d.ru.map RuM.row),.sl (d.st.map StM.row)]) else some (1,[]):=by
  intro n;induction n with
  | zero =>
   intro i hi;obtain rfl:i=d.st.length:=by omega
   rw [e230_0_1];simp only [B6,C3,D5,H4,H2,C9,strOK,H1]
  | succ n ih =>
   intro i hi;have hlt:i<d.st.length:=by omega
   rw [e230_0_1,strOK_step d.op d.st hlt,stOK_eq];have h1:=r239 (d.so.map sRow) d.op hb.op d.st[i].o;have h3:=fun x2 x3 x4 x5 x6 x7 x8 x15 x16 x17=>hl3 i (by omega) d.st[i] x2 x3 x4 x5 x6 x7 x8 x15 x16 x17 i 0 (by omega)
   simp only [D1,C4] at h3;simp only [B6,C3,hlt,H3,H1,inbN,B9,rowAt_map hlt,wrap_succ hlt (maxB (by omega)),StM.row,nv0,nvS,dvI,dvB,dvS,dvL,B5,h1,r265,rIn]
   cases hf:findO d.op d.st[i].o with
   | none=>rfl
   | some o =>
    have hoa:o.a.length<=1048576:=findO_ok hb.op.a hf;simp only [foRes,nv0,nvS,dvI,dvB,dvS,dvL,B5,B6,D9,H2];rw [IntWalk.i64_in _ (by omega)]
    cases isB d.st[i].o
    · by_cases q1:0<=d.st[i].a
      · by_cases q2:d.st[i].a<o.a.length
        · have q2':d.st[i].a<=(o.a.length:Int)-1:=by omega
          simp only [q1,q2,q2',H3,H1,H2,J8,N1,D9,F5,h3];cases inSt (d.st.take i) d.st[i] with
          | true=>rfl
          | false=>simp only [H2,nv0,nvS,dvI,dvB,dvS,dvL,B5,D7,H1,H2,wrap_succ hlt (maxB (by omega)),ih (i+1) (by omega),N1,F5]
        · have q2':¬ d.st[i].a<=(o.a.length:Int)-1:=by omega
          simp [q1,q2,q2']
      · simp [q1]
    · rfl
 have h1:=hl1 d.st.length 0 (by omega)
 simp only [D1,T2,C4] at h1;rw [e230_0_0,h1];have i1:((d.st.length:Int)<=8)↔d.st.length<=8:=by omega
 cases strOK d.op [] d.st with
 | false=>rfl
 | true=>simp only [H1,nv0,nvS,dvI,dvB,dvS,dvL,B5,D7,H1,H2,B6,i1,F5]
theorem r150 (d:DfM) (hb:DfB d):rn ⟨150,0,0⟩ [.sl (d.so.map sRow),.sl (d.op.map OpM.row),.sl (d.ru.map RuM.row),.sl (d.st.map StM.row)]=some (0,[.bool d.valid]):=by
 have hrl:=hb.ru;have hl1:∀ n i (acc:List ByteArray),i+n=d.ru.length->acc.length<=i->rn ⟨150,0,1⟩ [.int (i:Int),.sl (d.so.map sRow),.sl (d.op.map OpM.row),.sl (d.ru.map RuM.row),.sl (d.st.map StM.row),.sl (acc.map sRow)]=bif (d.ru.drop i).all (rulOK d.op) then some (0,[.sl (d.so.map sRow),.sl (d.op.map OpM.row),.sl (d.ru.map RuM.row),.sl (d.st.map StM.row),.sl ((acc++(d.ru.drop i).map (·.n)).map sRow)]) else some (1,[]):=by
  intro n;induction n with
  | zero =>
   intro i acc hi ha;obtain rfl:i=d.ru.length:=by omega
   rw [e150_0_1];simp only [B6,C3,D5,H4,H2,C9,N2,H1,E0,J4]
  | succ n ih =>
   intro i acc hi ha;have hlt:i<d.ru.length:=by omega
   rw [e150_0_1,C2 hlt];have h1:=r227 (d.so.map sRow) d.op hb.op d.ru[i] (hb.rua _ (C0 hlt));have hb2:G9 (acc.length+1) M63=true:=nb (by omega)
   have h6:=ih (i+1) (acc++[d.ru[i].n]) (by omega) (by simp; omega)
   simp only [E6,C7,E0,sRow] at h6;simp only [B6,C3,hlt,H3,H1,inbN,B9,rowAt_map hlt,wrap_succ hlt (maxB (by omega)),RuM.row,nv0,nvS,dvI,dvB,dvS,dvL,B5,h1,C8,D6,E8,hb2,h6,K0]
   cases rulOK d.op d.ru[i] with
   | false=>rfl
   | true=>simp only [E6,C7,E1,D4,D0,sRow,D9,H2,H1,F5]
 have hd:=r229 (d.ru.map (·.n)) (by rw [B6]; exact maxB (by omega))
 have hg:=r228 d.so hb.so hb.sos d.op hb.op hb.opn;have hs:=r230 d hb;have h1:=hl1 d.ru.length 0 [] (by omega) (K4 _)
 simp only [D1,C4,E0,D0] at h1;have i1:((d.ru.length:Int)<=16)↔d.ru.length<=16:=by omega
 rw [e150_0_0,h1];unfold DfM.valid;cases d.ru.all (rulOK d.op) with
 | false=>cases sigOK d.so d.op <;> cases decide (d.ru.length<=16) <;> cases decide (d.st.length<=8) <;> rfl
 | true =>
  simp only [H1,nv0,nvS,dvI,dvB,dvS,dvL,B5,D7,H1,H2,B6,hd,hg,hs,i1,F5];cases sigOK d.so d.op <;> cases decide (d.ru.length<=16) <;> cases decide (d.st.length<=8) <;> cases strOK d.op [] d.st <;> cases dis (d.ru.map (·.n)) <;> rfl
end Go.Q.S
end
section
namespace Go.Q.S
open Go Go.Q Go.Proofs
theorem r168 (vars:List ByteArray) (hv:vars.length<=1048576):rn ⟨168,0,0⟩ [.sl (vars.map sRow)]=some (0,[.sl ((wv vars).map VS.row)]):=by
 have hl:∀ n i (acc:List VS),i+n=vars.length->acc.length<=i->rn ⟨168,0,1⟩ [.sl (vars.map sRow),.int (vars.length:Int),.int (i:Int),.sl (acc.map VS.row)]=some (0,[.sl ((acc++wv (vars.drop i)).map VS.row)]):=by
  intro n;induction n with
  | zero =>
   intro i acc hi ha;obtain rfl:i=vars.length:=by omega
   rw [e168_0_1];simp only [B6,C3,D5,H4,H2,C9,wv,E0,J4]
  | succ n ih =>
   intro i acc hi ha;have hlt:i<vars.length:=by omega
   rw [e168_0_1,C2 hlt];have hb2:G9 (acc.length+1) M63=true:=nb (by omega)
   have h6:=ih (i+1) (acc++[(vars[i],wordS)]) (by omega) (by simp; omega)
   simp only [E6,C7,E0,VS.row] at h6;simp only [B6,C3,hlt,H3,H1,inbN,B9,rowAt_map hlt,wrap_succ hlt (maxB (by omega)),sRow,nv0,nvS,dvI,dvB,dvS,dvL,B5,C8,D6,E8,hb2,h6]
   simp only [wv,E6,C7,E1,D4,D0,VS.row]
 have h:=hl vars.length 0 [] (by omega) (K4 _)
 simp only [D1,C4,E0,D0] at h;rw [e168_0_0];simp only [B6,h,nv0,nvS,dvI,dvB,dvS,dvL,B5,D7,H1,H2]
theorem r157 (vars:List ByteArray) (hv:vars.length<=1048576):rn ⟨157,0,0⟩ [.sl (vars.map sRow)]=some (0,[.sl ((wv vars).map VS.row)]):=by
 have hl:∀ n i (acc:List VS),i+n=vars.length->acc.length<=i->rn ⟨157,0,1⟩ [.sl (vars.map sRow),.int (i:Int),.sl (acc.map VS.row)]=some (0,[.sl ((acc++wv (vars.drop i)).map VS.row)]):=by
  intro n;induction n with
  | zero =>
   intro i acc hi ha;obtain rfl:i=vars.length:=by omega
   rw [e157_0_1];simp only [B6,C3,D5,H4,H2,C9,wv,E0,J4]
  | succ n ih =>
   intro i acc hi ha;have hlt:i<vars.length:=by omega
   rw [e157_0_1,C2 hlt];have hb2:G9 (acc.length+1) M63=true:=nb (by omega)
   have h6:=ih (i+1) (acc++[(vars[i],wordS)]) (by omega) (by simp; omega)
   simp only [E6,C7,E0,VS.row] at h6;simp only [B6,C3,hlt,H3,H1,inbN,B9,rowAt_map hlt,wrap_succ hlt (maxB (by omega)),sRow,nv0,nvS,dvI,dvB,dvS,dvL,B5,C8,D6,E8,hb2,h6]
   simp only [wv,E6,C7,E1,D4,D0,VS.row]
 have h:=hl vars.length 0 [] (by omega) (K4 _)
 simp only [D1,C4,E0,D0] at h;rw [e157_0_0];simp only [h,nv0,nvS,dvI,dvB,dvS,dvL,B5,D7,H1,H2]
theorem r151 (vars:List ByteArray) (hv:vars.length<=1048576) (hvs:∀ x∈vars,x.size<=maxLen):rn ⟨151,0,0⟩ [.sl (vars.map sRow)]=some (0,[.bool (decide (vars.length<=3)&&(dis vars&&vars.all isVr))]):=by
 have hl1:∀ n i,i+n=vars.length->rn ⟨151,0,1⟩ [.sl (vars.map sRow),.int (i:Int)]=bif (vars.drop i).all isVr then some (0,[.sl (vars.map sRow)]) else some (1,[]):=by
  intro n;induction n with
  | zero =>
   intro i hi;obtain rfl:i=vars.length:=by omega
   rw [e151_0_1];simp only [B6,C3,D5,H4,H2,C9,N2,H1]
  | succ n ih =>
   intro i hi;have hlt:i<vars.length:=by omega
   rw [e151_0_1,C2 hlt];have h1:=r231 vars[i] (hvs _ (C0 hlt));simp only [B6,C3,hlt,H3,H1,inbN,B9,rowAt_map hlt,wrap_succ hlt (maxB (by omega)),sRow,nv0,nvS,dvI,dvB,dvS,dvL,B5,h1,ih (i+1) (by omega),K0]
   cases isVr vars[i] <;> rfl
 have h1:=hl1 vars.length 0 (by omega)
 simp only [D1,C4] at h1;have h3:=r229 vars (maxB (by omega))
 have i1:((vars.length:Int)<=3)↔vars.length<=3:=by omega
 rw [e151_0_0,h1];cases vars.all isVr with
 | false=>cases decide (vars.length<=3) <;> cases dis vars <;> rfl
 | true =>
  simp only [H1,nv0,nvS,dvI,dvB,dvS,dvL,B5,D7,H1,H2,B6,i1,h3,J8];cases decide (vars.length<=3) <;> rfl
end Go.Q.S
end
section
namespace Go.Q.S
open Go Go.Q Go.Proofs
theorem rCloneT (xs:Rows) (h:xs.length<=274877906944):rn ⟨345,0,0⟩ [.sl xs]=some (0,[.sl xs]):=by
 rw [e345_0_0];have hb:G9 (([]:Rows).length+xs.length) M63=true:=E9 (by unfold M63; simpa using h)
 rw [hb];cases xs with
 | nil=>simp [both]
 | cons x xs=>rfl
theorem r314 (a b c:Rows) (st:List StM) (hst:st.length<=1048576) (s:ByteArray):rn ⟨314,0,0⟩ [.sl a,.sl b,.sl c,.sl (st.map StM.row),.str s]=some (0,[.sl ((strA st s).map iRow)]):=by
 have key:∀ n i (acc:List Int),i+n=st.length->acc.length<=i->rn ⟨314,0,1⟩ [.str s,.sl (st.map StM.row),.int (st.length:Int),.int (i:Int),.sl (acc.map iRow)]=some (0,[.sl ((acc++strA (st.drop i) s).map iRow)]):=by
  intro n;induction n with
  | zero =>
   intro i acc hi ha;obtain rfl:i=st.length:=by omega
   rw [e314_0_1];simp only [B6,C3,D5,H4,H2,C9,strA,List.filter_nil,E0,J4]
  | succ n ih =>
   intro i acc hi ha;have hlt:i<st.length:=by omega
   rw [e314_0_1,C2 hlt,strA_cons];have hb2:G9 (acc.length+1) M63=true:=nb (by omega)
   have h1:=ih (i+1) (acc++[st[i].a]) (by omega) (by simp; omega)
   have h2:=ih (i+1) acc (by omega) (by omega)
   simp only [E6,C7,E0,iRow] at h1 h2;simp only [B6,C3,hlt,H3,H1,inbN,B9,rowAt_map hlt,wrap_succ hlt (maxB (by omega)),StM.row,nv0,nvS,dvI,dvB,dvS,dvL,B5,C8,D6,E8,hb2,iRow]
   by_cases hq:st[i].o=s
   · simp only [hq,H3,H1,if_true,h1,E6,C7,E1,D4,D0,iRow]
   · simp only [hq,H4,H2,if_false,h2,E6,iRow]
 have h:=key st.length 0 [] (by omega) (K4 _)
 rw [e314_0_0];simp only [C4,E0,D1,D0,B6] at h ⊢;simp only [h,nv0,nvS,dvI,dvB,dvS,dvL,B5,D7,H1,H2]
theorem r181 (a b c:Rows) (st:List StM) (hst:st.length<=1048576) (s:ByteArray):rn ⟨181,0,0⟩ [.sl a,.sl b,.sl c,.sl (st.map StM.row),.str s]=some (0,[.sl ((strA st s).map iRow)]):=by
 have key:∀ n i (acc:List Int),i+n=st.length->acc.length<=i->rn ⟨181,0,1⟩ [.str s,.int (i:Int),.sl a,.sl b,.sl c,.sl (st.map StM.row),.sl (acc.map iRow)]=some (0,[.sl ((acc++strA (st.drop i) s).map iRow)]):=by
  intro n;induction n with
  | zero =>
   intro i acc hi ha;obtain rfl:i=st.length:=by omega
   rw [e181_0_1];simp only [B6,C3,D5,H4,H2,C9,strA,List.filter_nil,E0,J4]
  | succ n ih =>
   intro i acc hi ha;have hlt:i<st.length:=by omega
   rw [e181_0_1,C2 hlt,strA_cons];have hb2:G9 (acc.length+1) M63=true:=nb (by omega)
   have h1:=ih (i+1) (acc++[st[i].a]) (by omega) (by simp; omega)
   have h2:=ih (i+1) acc (by omega) (by omega)
   simp only [E6,C7,E0,iRow] at h1 h2;simp only [B6,C3,hlt,H3,H1,inbN,B9,rowAt_map hlt,wrap_succ hlt (maxB (by omega)),StM.row,nv0,nvS,dvI,dvB,dvS,dvL,B5,C8,D6,E8,hb2,iRow]
   by_cases hq:st[i].o=s
   · simp only [hq,H3,H1,if_true,h1,E6,C7,E1,D4,D0,iRow]
   · simp only [hq,H4,H2,if_false,h2,E6,iRow]
 have h:=key st.length 0 [] (by omega) (K4 _)
 rw [e181_0_0];simp only [C4,E0,D1,D0] at h ⊢;simp only [h,nv0,nvS,dvI,dvB,dvS,dvL,B5,D7,H1,H2]
theorem r254 (d:DfM) (hb:DfB d) (t:Tm):rn ⟨254,0,0⟩ [.sl (d.so.map sRow),.sl (d.op.map OpM.row),.sl (d.ru.map RuM.row),.sl (d.st.map StM.row),.int t.k,.int t.n,.str t.s,.sl (t.as.map Tm.row)]=some (0,[.sl ((stL d.st t).map iRow)]):=by
 have h:=fun a b c=>r314 a b c d.st hb.st t.s
 rw [e254_0_0];unfold stL;by_cases hk:t.k=2
 · simp only [h,hk,nv0,nvS,dvI,dvB,dvS,dvL,B5,if_true,H3,D9,H2]
 · simp [hk]
theorem r317 (t w:Tm) (hn:t.nodes<=1048577) (m:Nat) (hm:m<t.as.length):rn ⟨317,0,0⟩ [.int t.k,.int t.n,.str t.s,.sl (t.as.map Tm.row),.int (m:Int),.int w.k,.int w.n,.str w.s,.sl (w.as.map Tm.row)]=some (0,[.int t.k,.int t.n,.str t.s,.sl ((t.as.set m w).map Tm.row)]):=by
 have hls:=len_sum (xs:=t.as);have hnd:=Tm.nodes_eq t;have h1:=rCloneT (t.as.map Tm.row) (by rw [B6]; omega)
 rw [e317_0_0];simp only [h1,nv0,nvS,dvI,dvB,dvS,dvL,B5,B6,inbN,hm,H3,H1,B9,over_tm hm]
theorem r262 (w:Tm):∀ (p:List Int) (t u:Tm),t.nodes<=1048577->p.length<=1048576->atT t p=some u->rn ⟨262,0,0⟩ [.int t.k,.int t.n,.str t.s,.sl (t.as.map Tm.row),.sl (p.map iRow),.int w.k,.int w.n,.str w.s,.sl (w.as.map Tm.row)]=some (0,[.int (putT t p w).k,.int (putT t p w).n,.str (putT t p w).s,.sl ((putT t p w).as.map Tm.row)])
 | [],t,u,hn,hp,h=>by
  rw [e262_0_0];simp [putT]
 | j::p,t,u,hn,hp,h=>by
  obtain ⟨hm,h0,h1⟩:=atT_cons h;have hls:=len_sum (xs:=t.as);have hnd:=Tm.nodes_eq t;have hmn:=mem_sum (f:=Tm.nodes) (C0 hm);have h2:=r262 w p _ u (by omega) (by simp only [C8] at hp; omega) h1
  have ht:=tail_rows j p;rw [e262_0_0];simp only [putT,dif_pos hm];obtain ⟨m,rfl⟩:∃ m:Nat,j=(m:Int):=⟨j.toNat,by omega⟩
  simp only [B9] at hm h2 ⊢;have h3:=r317 t (putT t.as[m] p w) hn m hm;have q0:rowAt (((m:Int)::p).map iRow) 0=[.int (m:Int)]:=rfl;have q1:inb 0 (((m:Int)::p).map iRow).length=true:=by simp [inb]
  have q2:¬(((((m:Int)::p).map iRow).length:Nat):Int)=0:=by simp; omega
  have q3:(1:Int)<=((((m:Int)::p).map iRow).length:Nat):=by simp only [B6,C8]; omega
  have hm':m<(t.as.map Tm.row).length:=by rw [B6]; exact hm
  have q4:(0:Int)<=1:=by decide
  simp only [q0,q1,q2,q3,q4,ht,show P8 0=0 from rfl,Int.le_refl,nv0,nvS,dvI,dvB,dvS,dvL,B5,inbN,hm',rowAt_map hm,Tm.row_eq,H3,H4,H1,H2,J8,B9,h2,h3]
  rfl
theorem r271 (w:Tm) (hw:w.nodes<=1048577):∀ (p:List Int) (t u:Tm),t.nodes<=1048577->p.length<=1048576->atT t p=some u->rn ⟨271,0,0⟩ [.int t.k,.int t.n,.str t.s,.sl (t.as.map Tm.row),.sl (p.map iRow),.int w.k,.int w.n,.str w.s,.sl (w.as.map Tm.row)]=some (0,[.int (putT t p w).k,.int (putT t p w).n,.str (putT t p w).s,.sl ((putT t p w).as.map Tm.row)])
 | [],t,u,hn,hp,h=>by
  have h3:=r188 w (small_of w hw);rw [e271_0_0];simp only [E0,D6,C4,H3,H1,h3,nv0,nvS,dvI,dvB,dvS,dvL,B5,putT]
 | j::p,t,u,hn,hp,h=>by
  obtain ⟨hm,h0,h1⟩:=atT_cons h;have hls:=len_sum (xs:=t.as);have hnd:=Tm.nodes_eq t;have hmn:=mem_sum (f:=Tm.nodes) (C0 hm);have h2:=r271 w hw p _ u (by omega) (by simp only [C8] at hp; omega) h1
  have h3:=r188 t (small_of t hn);have ht:=tail_rows j p;rw [e271_0_0];simp only [putT,dif_pos hm];obtain ⟨m,rfl⟩:∃ m:Nat,j=(m:Int):=⟨j.toNat,by omega⟩
  simp only [B9] at hm h2 ⊢;have q0:rowAt (((m:Int)::p).map iRow) 0=[.int (m:Int)]:=rfl;have q1:inb 0 (((m:Int)::p).map iRow).length=true:=by simp [inb]
  have q2:¬(((((m:Int)::p).map iRow).length:Nat):Int)=0:=by simp; omega
  have q3:(1:Int)<=((((m:Int)::p).map iRow).length:Nat):=by simp only [B6,C8]; omega
  have hm':m<(t.as.map Tm.row).length:=by rw [B6]; exact hm
  have q4:(0:Int)<=1:=by decide
  have q5:=over_tm hm (putT t.as[m] p w);simp only [q0,q1,q2,q3,q4,ht,show P8 0=0 from rfl,Int.le_refl,nv0,nvS,dvI,dvB,dvS,dvL,B5,inbN,hm',H3,H4,H1,H2,J8,B9,h3]
  rw [rowAt_map hm] at q5 ⊢;simp only [Tm.row_eq,nv0,nvS,dvI,dvB,dvS,dvL,B5] at q5 ⊢;simp only [h2,nv0,nvS,dvI,dvB,dvS,dvL,B5,q5];rfl
end Go.Q.S
end
section
namespace Go.Q.S
open Go Go.Q Go.Proofs
theorem mI2:∀ t u:Tm,∀ l:List Bnd,Small u->(∀ b∈l,Small b.2)->l.length+t.nodes<=1048576->rn ⟨334,2,0⟩ [.int t.k,.int t.n,.str t.s,.sl (t.as.map Tm.row),.int u.k,.int u.n,.str u.s,.sl (u.as.map Tm.row),.sl (l.map Bnd.row)]=some (0,foI (mT t u l) (if t.k=1 then l.map Bnd.row else [])):=Tm.ind fun t ih u l hu hl hb=>by
 have hnd:=Tm.nodes_eq t;have hls:=len_sum (xs:=t.as);have hlp:t.as.length=u.as.length->∀ n i (l:List Bnd),i+n=t.as.length->(∀ b∈l,Small b.2)->l.length+((t.as.drop i).map Tm.nodes).sum<=1048576->rn ⟨334,2,1⟩ [.int (t.as.length:Int),.int (i:Int),.sl (l.map Bnd.row),.int t.k,.int t.n,.str t.s,.sl (t.as.map Tm.row),.int u.k,.int u.n,.str u.s,.sl (u.as.map Tm.row)]=match mTs (t.as.drop i) (u.as.drop i) l with
  | some l'=>some (0,[.sl (l'.map Bnd.row)])
  | none=>some (1,[.sl []]):=by
  intro hlen n;induction n with
  | zero =>
   intro i l hi hl hb;obtain rfl:i=t.as.length:=by omega
   rw [e334_2_1];simp only [B6,C3,D5,H4,H2,C9,mTs]
  | succ n ih2 =>
   intro i l hi hl hb;have hlt:i<t.as.length:=by omega
   have hlu:i<u.as.length:=by omega
   rw [C2 hlt] at hb ⊢;rw [C2 hlu];simp only [C7,J9] at hb;have hm:=C0 hlt;have hmu:=C0 hlu;have h1:=ih _ hm u.as[i] l (hu.sub hmu) hl (by omega)
   rw [e334_2_1];simp only [B6,C3,hlt,H3,H1,inbN,B9,rowAt_map hlt,wrap_succ hlt (maxB (by omega)),hlu,rowAt_map hlu,Tm.row_eq,nv0,nvS,dvI,dvB,dvS,dvL,B5,h1,mTs]
   cases hq:mT t.as[i] u.as[i] l with
   | none=>rfl
   | some l1 =>
    have hl1:=mT_all Small (fun t a h ha=>h.sub ha) _ _ l l1 (hu.sub hmu) hl hq
    have hn1:=mT_len _ _ _ _ hq;have h2:=ih2 (i+1) l1 (by omega) hl1 (by omega)
    simp only [foI,nv0,nvS,dvI,dvB,dvS,dvL,B5,D9,H2,h2]
 have h0:=fun h=>hlp h t.as.length 0 l (by omega) hl (by rw [D1]; omega)
 simp only [D1,C4] at h0;rw [e334_2_0,mT_eq];by_cases h1:t.k=1
 · have hbd:=r276 l (by omega) t.s
   have hb2:G9 (l.length+1) M63=true:=nb (by omega)
   simp only [h1,H3,H1,if_true,hbd];cases hq:bnd l t.s with
   | some v =>
    have he:=r289 v u (bnd_mem' hl hq);simp only [nv0,nvS,dvI,dvB,dvS,dvL,B5,H1,he];cases eqb v.row u.row <;> rfl
   | none =>
    simp only [nv0,nvS,dvI,dvB,dvS,dvL,B5,H2,B6,C8,D6,E8,hb2,H1,foI,E6,C7,E0,bd_row]
 · simp only [h1,H4,H2,if_false]
   by_cases e1:t.k=u.k
   · rw [H7 e1,H5 e1]
     by_cases e2:t.n=u.n
     · rw [H7 e2,H5 e2]
       by_cases e3:t.s=u.s
       · rw [H7 e3,H5 e3]
         by_cases e4:t.as.length=u.as.length
         · have e4':((t.as.map Tm.row).length:Int)=((u.as.map Tm.row).length:Int):=by simp [e4]
           rw [H7 e4',H5 e4];simp only [D9,H2,B6,h0 e4];cases mTs t.as u.as l <;> rfl
         · have e4':¬((t.as.map Tm.row).length:Int)=((u.as.map Tm.row).length:Int):=by simp; omega
           rw [H8 e4',H6 e4]; rfl
       · rw [H8 e3,H6 e3]; rfl
     · rw [H8 e2,H6 e2]; rfl
   · rw [H8 e1,H6 e1]; rfl
theorem mI1:∀ t u:Tm,∀ l:List Bnd,Small u->(∀ b∈l,Small b.2)->l.length+t.nodes<=1048576->rn ⟨334,1,0⟩ [.int t.k,.int t.n,.str t.s,.sl (t.as.map Tm.row),.int u.k,.int u.n,.str u.s,.sl (u.as.map Tm.row),.sl (l.map Bnd.row)]=some (0,foI (mT t u l) (if t.k=1 then l.map Bnd.row else [])):=fun t u l hu hl hb=>by
 have ih:=fun (a:Tm) (_:a∈t.as)=>mI2 a
 have hnd:=Tm.nodes_eq t;have hls:=len_sum (xs:=t.as);have hlp:t.as.length=u.as.length->∀ n i (l:List Bnd),i+n=t.as.length->(∀ b∈l,Small b.2)->l.length+((t.as.drop i).map Tm.nodes).sum<=1048576->rn ⟨334,1,1⟩ [.int (t.as.length:Int),.int (i:Int),.sl (l.map Bnd.row),.int t.k,.int t.n,.str t.s,.sl (t.as.map Tm.row),.int u.k,.int u.n,.str u.s,.sl (u.as.map Tm.row)]=match mTs (t.as.drop i) (u.as.drop i) l with
  | some l'=>some (0,[.sl (l'.map Bnd.row)])
  | none=>some (1,[.sl []]):=by
  intro hlen n;induction n with
  | zero =>
   intro i l hi hl hb;obtain rfl:i=t.as.length:=by omega
   rw [e334_1_1];simp only [B6,C3,D5,H4,H2,C9,mTs]
  | succ n ih2 =>
   intro i l hi hl hb;have hlt:i<t.as.length:=by omega
   have hlu:i<u.as.length:=by omega
   rw [C2 hlt] at hb ⊢;rw [C2 hlu];simp only [C7,J9] at hb;have hm:=C0 hlt;have hmu:=C0 hlu;have h1:=ih _ hm u.as[i] l (hu.sub hmu) hl (by omega)
   rw [e334_1_1];simp only [B6,C3,hlt,H3,H1,inbN,B9,rowAt_map hlt,wrap_succ hlt (maxB (by omega)),hlu,rowAt_map hlu,Tm.row_eq,nv0,nvS,dvI,dvB,dvS,dvL,B5,h1,mTs]
   cases hq:mT t.as[i] u.as[i] l with
   | none=>rfl
   | some l1 =>
    have hl1:=mT_all Small (fun t a h ha=>h.sub ha) _ _ l l1 (hu.sub hmu) hl hq
    have hn1:=mT_len _ _ _ _ hq;have h2:=ih2 (i+1) l1 (by omega) hl1 (by omega)
    simp only [foI,nv0,nvS,dvI,dvB,dvS,dvL,B5,D9,H2,h2]
 have h0:=fun h=>hlp h t.as.length 0 l (by omega) hl (by rw [D1]; omega)
 simp only [D1,C4] at h0;rw [e334_1_0,mT_eq];by_cases h1:t.k=1
 · have hbd:=r276 l (by omega) t.s
   have hb2:G9 (l.length+1) M63=true:=nb (by omega)
   simp only [h1,H3,H1,if_true,hbd];cases hq:bnd l t.s with
   | some v =>
    have he:=r289 v u (bnd_mem' hl hq);simp only [nv0,nvS,dvI,dvB,dvS,dvL,B5,H1,he];cases eqb v.row u.row <;> rfl
   | none =>
    simp only [nv0,nvS,dvI,dvB,dvS,dvL,B5,H2,B6,C8,D6,E8,hb2,H1,foI,E6,C7,E0,bd_row]
 · simp only [h1,H4,H2,if_false]
   by_cases e1:t.k=u.k
   · rw [H7 e1,H5 e1]
     by_cases e2:t.n=u.n
     · rw [H7 e2,H5 e2]
       by_cases e3:t.s=u.s
       · rw [H7 e3,H5 e3]
         by_cases e4:t.as.length=u.as.length
         · have e4':((t.as.map Tm.row).length:Int)=((u.as.map Tm.row).length:Int):=by simp [e4]
           rw [H7 e4',H5 e4];simp only [D9,H2,B6,h0 e4];cases mTs t.as u.as l <;> rfl
         · have e4':¬((t.as.map Tm.row).length:Int)=((u.as.map Tm.row).length:Int):=by simp; omega
           rw [H8 e4',H6 e4]; rfl
       · rw [H8 e3,H6 e3]; rfl
     · rw [H8 e2,H6 e2]; rfl
   · rw [H8 e1,H6 e1]; rfl
theorem mS:∀ t u:Tm,∀ l:List Bnd,Small u->(∀ b∈l,Small b.2)->l.length+t.nodes<=1048576->(∀ l',mT t u l=some l'->rn ⟨332,1,0⟩ [.int t.k,.int t.n,.str t.s,.sl (t.as.map Tm.row),.int u.k,.int u.n,.str u.s,.sl (u.as.map Tm.row),.sl (l.map Bnd.row)]=some (0,[.bool true,.sl (l'.map Bnd.row)]))/\(mT t u l=none->(∃ X,rn ⟨332,1,0⟩ [.int t.k,.int t.n,.str t.s,.sl (t.as.map Tm.row),.int u.k,.int u.n,.str u.s,.sl (u.as.map Tm.row),.sl (l.map Bnd.row)]=some (0,[.bool false,.sl X]))\/rn ⟨332,1,0⟩ [.int t.k,.int t.n,.str t.s,.sl (t.as.map Tm.row),.int u.k,.int u.n,.str u.s,.sl (u.as.map Tm.row),.sl (l.map Bnd.row)]=some (1,[])):=Tm.ind fun t ih u l hu hl hb=>by
 have hnd:=Tm.nodes_eq t;have hls:=len_sum (xs:=t.as);have hlp:t.as.length=u.as.length->∀ n i (l:List Bnd),i+n=t.as.length->(∀ b∈l,Small b.2)->l.length+((t.as.drop i).map Tm.nodes).sum<=1048576->rn ⟨332,1,1⟩ [.int (i:Int),.sl (l.map Bnd.row),.int t.k,.int t.n,.str t.s,.sl (t.as.map Tm.row),.int u.k,.int u.n,.str u.s,.sl (u.as.map Tm.row)]=match mTs (t.as.drop i) (u.as.drop i) l with
  | some l'=>some (0,[.sl (l'.map Bnd.row)])
  | none=>some (1,[]):=by
  intro hlen n;induction n with
  | zero =>
   intro i l hi hl hb;obtain rfl:i=t.as.length:=by omega
   rw [e332_1_1];simp only [B6,C3,D5,H4,H2,C9,mTs]
  | succ n ih2 =>
   intro i l hi hl hb;have hlt:i<t.as.length:=by omega
   have hlu:i<u.as.length:=by omega
   rw [C2 hlt] at hb ⊢;rw [C2 hlu];simp only [C7,J9] at hb;have hm:=C0 hlt;have hmu:=C0 hlu;obtain ⟨h1,h1'⟩:=ih _ hm u.as[i] l (hu.sub hmu) hl (by omega)
   rw [e332_1_1];simp only [B6,C3,hlt,H3,H1,inbN,B9,rowAt_map hlt,wrap_succ hlt (maxB (by omega)),hlu,rowAt_map hlu,Tm.row_eq,nv0,nvS,dvI,dvB,dvS,dvL,B5,mTs]
   cases hq:mT t.as[i] u.as[i] l with
   | none =>
    rcases h1' hq with ⟨X,e⟩ | e
    · rw [e]; rfl
    · rw [e]; rfl
   | some l1 =>
    have hl1:=mT_all Small (fun t a h ha=>h.sub ha) _ _ l l1 (hu.sub hmu) hl hq
    have hn1:=mT_len _ _ _ _ hq;have h2:=ih2 (i+1) l1 (by omega) hl1 (by omega)
    simp only [h1 l1 hq,nv0,nvS,dvI,dvB,dvS,dvL,B5,D7,H1,H2,D9,h2]
 have h0:=fun h=>hlp h t.as.length 0 l (by omega) hl (by rw [D1]; omega)
 simp only [D1,C4] at h0;rw [e332_1_0,mT_eq];by_cases h1:t.k=1
 · have hbd:=r269 l (by omega) hl t.s
   have hb2:G9 (l.length+1) M63=true:=nb (by omega)
   have hcp:=r188 u hu;simp only [h1,H3,H1,if_true,hbd];cases hq:bnd l t.s with
   | some v =>
    have he:=r217 v u (bnd_mem' hl hq);simp only [nv0,nvS,dvI,dvB,dvS,dvL,B5,H1,he];cases eqb v.row u.row with
    | true=>exact ⟨fun l' h=>by simp only [if_true,D3.injEq] at h; subst h; rfl,fun h=>by simp at h⟩
    | false=>exact ⟨fun l' h=>by simp at h,fun _=>.inl ⟨_,rfl⟩⟩
   | none =>
    refine ⟨fun l' h=>?_,fun h=>by simp at h⟩
    simp only [D3.injEq] at h;subst h;simp only [nv0,nvS,dvI,dvB,dvS,dvL,B5,H2,hcp,B6,C8,D6,E8,hb2,H1,E6,C7,E0,bd_row]
 · simp only [h1,H4,H2,if_false]
   by_cases e1:t.k=u.k
   · rw [H7 e1,H5 e1]
     by_cases e2:t.n=u.n
     · rw [H7 e2,H5 e2]
       by_cases e3:t.s=u.s
       · rw [H7 e3,H5 e3]
         by_cases e4:t.as.length=u.as.length
         · have e4':((t.as.map Tm.row).length:Int)=((u.as.map Tm.row).length:Int):=by simp [e4]
           rw [H7 e4',H5 e4];simp only [D9,H2,h0 e4];cases mTs t.as u.as l with
           | none=>exact ⟨fun l' h=>by simp at h,fun _=>.inr rfl⟩
           | some l2=>exact ⟨fun l' h=>by simp only [D3.injEq] at h; subst h; rfl,fun h=>by simp at h⟩
         · have e4':¬((t.as.map Tm.row).length:Int)=((u.as.map Tm.row).length:Int):=by simp; omega
           rw [H8 e4',H6 e4]; exact ⟨fun l' h=>by simp at h,fun _=>.inl ⟨_,rfl⟩⟩
       · rw [H8 e3,H6 e3]; exact ⟨fun l' h=>by simp at h,fun _=>.inl ⟨_,rfl⟩⟩
     · rw [H8 e2,H6 e2]; exact ⟨fun l' h=>by simp at h,fun _=>.inl ⟨_,rfl⟩⟩
   · rw [H8 e1,H6 e1]; exact ⟨fun l' h=>by simp at h,fun _=>.inl ⟨_,rfl⟩⟩
theorem r333 (l:List Bnd) (hl:l.length<=1048576) (hs:∀ b∈l,Small b.2) (ns:List ByteArray) (hn:ns.length<=1048577):rn ⟨333,0,0⟩ [.sl (l.map Bnd.row),.sl (ns.map sRow)]=some (0,[.sl ((rsB l (srtN ns)).map Bnd.row)]):=by
 have h1:=r236 ns (by omega)
 have hsl:=srtN_len ns;rw [e333_0_0,h1];generalize srtN ns=ms at hsl ⊢;have key:∀ n i (acc:List Bnd),i+n=ms.length->acc.length<=i->rn ⟨333,0,1⟩ [.sl (l.map Bnd.row),.int (i:Int),.sl (acc.map Bnd.row),.sl (ms.map sRow)]=some (0,[.sl ((acc++rsB l (ms.drop i)).map Bnd.row)]):=by
  intro n;induction n with
  | zero =>
   intro i acc hi ha;obtain rfl:i=ms.length:=by omega
   rw [e333_0_1];simp only [B6,C3,D5,H4,H2,C9,rsB,List.filterMap_nil,J4]
  | succ n ih =>
   intro i acc hi ha;have hlt:i<ms.length:=by omega
   rw [e333_0_1,C2 hlt,rsB_cons];have hbd:=r269 l hl hs ms[i];have hb2:G9 (acc.length+1) M63=true:=nb (by omega)
   simp only [B6,C3,hlt,H3,H1,inbN,B9,rowAt_map hlt,wrap_succ hlt (maxB (by omega)),sRow,nv0,nvS,dvI,dvB,dvS,dvL,B5,hbd]
   cases hq:bnd l ms[i] with
   | none =>
    have h2:=ih (i+1) acc (by omega) (by omega)
    simp only [nv0,nvS,dvI,dvB,dvS,dvL,B5,H2,h2]
   | some v =>
    have h2:=ih (i+1) (acc++[(ms[i],v)]) (by omega) (by simp; omega)
    simp only [E6,C7,E0,bd_row,sRow] at h2;simp only [nv0,nvS,dvI,dvB,dvS,dvL,B5,H1,C8,D6,E8,hb2,h2,E6,C7,E1,D4,D0,bd_row]
 have h:=key ms.length 0 [] (by omega) (K4 _)
 simp only [C4,E0,D1,D0] at h;simp only [h,nv0,nvS,dvI,dvB,dvS,dvL,B5,D7,H1,H2]
theorem r298 (t u:Tm) (ht:t.nodes<=1048576) (hu:Small u):rn ⟨298,0,0⟩ [.int t.k,.int t.n,.str t.s,.sl (t.as.map Tm.row),.int u.k,.int u.n,.str u.s,.sl (u.as.map Tm.row)]=some (0,foI ((mT t u []).map fun l=>rsB l (srtN (srtN t.names))) []):=by
 obtain ⟨h1,h2⟩:=mS t u [] hu (by simp) (by simpa using ht)
 have h3:=r154 t (by omega)
 have hnl:=names_nodes t;have hsl:=srtN_len t.names;rw [e298_0_0];simp only [E0] at h1 h2;cases hq:mT t u [] with
 | none =>
  rcases h2 hq with ⟨X,e⟩ | e
  · rw [e]; rfl
  · rw [e]; rfl
 | some l =>
  have hls:=mT_all Small (fun t a h ha=>h.sub ha) t u [] l hu (by simp) hq
  have hln:=mT_len _ _ _ _ hq;simp only [D6] at hln;have h4:=r333 l (by omega) hls (srtN t.names) (by omega)
  simp only [h1 l hq,nv0,nvS,dvI,dvB,dvS,dvL,B5,D7,H1,H2,D9,h3,h4,K7,foI]
theorem holdI (l:List Bnd) (hl:l.length<=1048576) (hs:∀ b∈l,b.2.nodes<=60) (gs:List Gu) (hg:gs.length<=1048576) (h:∀ g∈gs,g.l.nodes<=60/\g.r.nodes<=60):rn ⟨291,0,0⟩ [.sl (l.map Bnd.row),.sl (gs.map Gu.row)]=some (0,[.bool (gs.all fun g=>holds (appG l g))]):=by
 have hss:∀ b∈l,Small b.2:=fun b hb=>small_of _ (by have:=hs b hb; omega)
 rw [e291_0_0];have hf:=all_loop (F:=fun i=>rn ⟨291,0,1⟩ [.sl (l.map Bnd.row),.sl (gs.map Gu.row),.int (gs.map Gu.row).length,.int (i:Int)]) (xs:=gs) (p:=fun g=>holds (appG l g)) (A:=some (0,[])) (B:=some (1,[])) (fun i hi=>?_) ?_
 · simp only [C4] at hf
   rw [hf];cases gs.all fun g=>holds (appG l g) <;> rfl
 · have hgi:=h _ (C0 hi)
   have a1:=r327 l hl hss gs[i] ⟨by omega,by omega⟩
   have a2:=r326 (appG l gs[i]) (appG_ok60 hs hgi.1 hgi.2);rw [e291_0_1];simp only [B9,rowAt_map hi,gu_row,B6,inbN,hi,C3,H3,H1,nv0,nvS,dvI,dvB,dvS,dvL,B5,wrap_succ hi (by unfold maxLen; omega),a1,a2]
   cases holds (appG l gs[i]) <;> rfl
 · rw [e291_0_1]
   simp
theorem r315 (d:DfM) (hd:DfG d) (i:Nat) (hi:i<d.ru.length) (u:Tm) (hu:u.nodes<=60):rn ⟨315,0,0⟩ [.sl (d.so.map sRow),.sl (d.op.map OpM.row),.sl (d.ru.map RuM.row),.sl (d.st.map StM.row),.int (i:Int),.int u.k,.int u.n,.str u.s,.sl (u.as.map Tm.row)]=some (0,frR (fireR d.ru[i] u)):=by
 have hr:=hd.ru (C0 hi);have hln:=valid_nodes hr.lv;have hrn:=valid_nodes hr.rv;have h1:=mI1 d.ru[i].l u [] (small_of u (by omega)) (by simp) (by simp; omega)
 rw [e315_0_0];simp only [E0] at h1;simp only [B6,inbN,hi,H3,H1,B9,rowAt_map hi,RuM.row,nv0,nvS,dvI,dvB,dvS,dvL,B5,h1];unfold fireR;cases hq:mT d.ru[i].l u [] with
 | none=>rfl
 | some l =>
  have hls:=mT_all (fun t=>t.nodes<=60) (fun t a h ha=>nodes_sub t a h ha) _ u [] l hu (by simp) hq
  have hln2:=mT_len _ _ _ _ hq;simp only [D6] at hln2;have hss:∀ b∈l,Small b.2:=fun b hb=>small_of _ (by have:=hls b hb; omega)
  have h2:=holdI l (by omega) hls d.ru[i].g hr.b.g (fun g hg=>⟨valid_nodes (hr.gl g hg).1,valid_nodes (hr.gl g hg).2⟩)
  have h3:=r198 l (by omega) hss d.ru[i].r (small_of _ (by omega))
  have h4:=r197 (aS l d.ru[i].r) (aS_small hss _ (small_of _ (by omega)))
  simp only [foI,nv0,nvS,dvI,dvB,dvS,dvL,B5,D9,H2,h2,h3,h4];cases d.ru[i].g.all fun g=>holds (appG l g) <;> rfl
theorem r264 {ops:List OpM} (r:RuM) (hr:RuG ops r) (u:Tm) (hu:u.nodes<=60):rn ⟨264,0,0⟩ [.str r.n,.int (r.l).k,.int (r.l).n,.str (r.l).s,.sl ((r.l).as.map Tm.row),.int (r.r).k,.int (r.r).n,.str (r.r).s,.sl ((r.r).as.map Tm.row),.sl (r.g.map Gu.row),.int u.k,.int u.n,.str u.s,.sl (u.as.map Tm.row)]=some (0,[.bool (fireR r u).isSome,.sl ((fiL r u).map Bnd.row)]):=by
 have hln:=valid_nodes hr.lv;have hrn:=valid_nodes hr.rv;have hgl:=hr.b.g;have h1:=r298 r.l u (by omega) (small_of u (by omega))
 have hL:(∀ b∈fiL r u,b.2.nodes<=60)/\(fiL r u).length<=1048576:=by
  unfold fiL;cases hq:mT r.l u [] with
  | none=>exact ⟨by simp,by simp⟩
  | some l =>
   have hls:=mT_all (fun t=>t.nodes<=60) (fun t a h ha=>nodes_sub t a h ha) _ u [] l hu (by simp) hq
   have h1:=srtN_len r.l.names;have h2:=srtN_len (srtN r.l.names);have h3:=names_nodes r.l;have h4:=rsB_len l (srtN (srtN r.l.names));exact ⟨fun b hb=>rsB_mem (P:=fun t=>t.nodes<=60) hls _ b hb,by show (rsB l _).length<=_; omega⟩
 have hss:∀ b∈fiL r u,Small b.2:=fun b hb=>small_of _ (by have:=hL.1 b hb; omega)
 have e:rn ⟨298,0,0⟩ [.int (r.l).k,.int (r.l).n,.str (r.l).s,.sl ((r.l).as.map Tm.row),.int u.k,.int u.n,.str u.s,.sl (u.as.map Tm.row)]=some (0,[.bool (mT r.l u []).isSome,.sl ((fiL r u).map Bnd.row)]):=by
  rw [h1]; unfold fiL;cases mT r.l u [] <;> rfl
 have key:∀ n i (b:Bool),i+n=r.g.length->rn ⟨264,0,1⟩ [.bool b,.int (i:Int),.str r.n,.int (r.l).k,.int (r.l).n,.str (r.l).s,.sl ((r.l).as.map Tm.row),.int (r.r).k,.int (r.r).n,.str (r.r).s,.sl ((r.r).as.map Tm.row),.sl (r.g.map Gu.row),.sl ((fiL r u).map Bnd.row)]=some (0,[.bool (b&&(r.g.drop i).all fun g=>holds (appG (fiL r u) g)),.sl ((fiL r u).map Bnd.row)]):=by
  intro n;induction n with
  | zero =>
   intro i b hi;obtain rfl:i=r.g.length:=by omega
   rw [e264_0_1];simp only [B6,C3,D5,H4,H2,C9,N2,J8]
  | succ n ih =>
   intro i b hi;have hlt:i<r.g.length:=by omega
   have hgi:=hr.gl _ (C0 hlt);have g1:=valid_nodes hgi.1;have g2:=valid_nodes hgi.2;have a1:=r284 (fiL r u) hL.2 hss r.g[i] ⟨by omega,by omega⟩
   have a2:=r283 (appG (fiL r u) r.g[i]) (appG_ok60 hL.1 g1 g2);rw [e264_0_1,C2 hlt];cases b with
   | false=>simp [hlt]
   | true =>
    simp only [B6,C3,hlt,H3,H1,inbN,B9,rowAt_map hlt,wrap_succ hlt (maxB (by omega)),gu_row,nv0,nvS,dvI,dvB,dvS,dvL,B5,a1,a2,ih (i+1) _ (by omega),K0,F5]
 have h2:=fun b=>key r.g.length 0 b (by omega)
 simp only [D1,C4] at h2;rw [e264_0_0];simp only [e,nv0,nvS,dvI,dvB,dvS,dvL,B5,D7,H1,H2,h2];rw [fireR_eq];cases ((mT r.l u []).isSome&&r.g.all fun g=>holds (appG (fiL r u) g)) <;> rfl
theorem r256 (d:DfM) (hd:DfG d) (u:Tm) (hu:u.nodes<=60):rn ⟨256,0,0⟩ [.sl (d.so.map sRow),.sl (d.op.map OpM.row),.sl (d.ru.map RuM.row),.sl (d.st.map StM.row),.int u.k,.int u.n,.str u.s,.sl (u.as.map Tm.row)]=some (0,[.int (optZ (rootF d.ru u))]):=by
 have hrl:=hd.b.ru;have key:∀ n i,i+n=d.ru.length->rn ⟨256,0,1⟩ [.int (d.ru.length:Int),.int (i:Int),.sl (d.so.map sRow),.sl (d.op.map OpM.row),.sl (d.ru.map RuM.row),.sl (d.st.map StM.row),.int u.k,.int u.n,.str u.s,.sl (u.as.map Tm.row)]=match (d.ru.drop i).findIdx? (fun r=>(fireR r u).isSome) with
  | some j=>some (1,[.int ((i+j:Nat):Int)])
  | none=>some (0,[]):=by
  intro n;induction n with
  | zero =>
   intro i hi;obtain rfl:i=d.ru.length:=by omega
   rw [e256_0_1];simp only [B6,C3,D5,H4,H2,C9,T5]
  | succ n ih =>
   intro i hi;have hlt:i<d.ru.length:=by omega
   have h1:=r315 d hd i hlt u hu;have h2:=ih (i+1) (by omega)
   rw [e256_0_1,C2 hlt,List.findIdx?_cons];simp only [C3,hlt,H3,H1,h1,wrap_succ hlt (maxB (by omega)),h2]
   cases fireR d.ru[i] u with
   | some w=>rfl
   | none =>
    simp only [frR,nv0,nvS,dvI,dvB,dvS,dvL,B5,H2,Option.isSome_none,S0,if_false];cases (d.ru.drop (i+1)).findIdx? (fun r=>(fireR r u).isSome) with
    | none=>rfl
    | some j=>simp only [K7,show i+(j+1)=i+1+j by omega]
 have h:=key d.ru.length 0 (by omega)
 simp only [D1,C4,E8] at h;rw [e256_0_0];simp only [B6,h];unfold rootF;cases d.ru.findIdx? (fun r=>(fireR r u).isSome) <;> rfl
theorem r182 (d:DfM) (hd:DfG d) (u:Tm) (hu:u.nodes<=60):rn ⟨182,0,0⟩ [.sl (d.so.map sRow),.sl (d.op.map OpM.row),.sl (d.ru.map RuM.row),.sl (d.st.map StM.row),.int u.k,.int u.n,.str u.s,.sl (u.as.map Tm.row)]=some (0,[.int (optZ (rootF d.ru u))]):=by
 have hrl:=hd.b.ru;have key:∀ n i,i+n=d.ru.length->rn ⟨182,0,1⟩ [.int (i:Int),.sl (d.so.map sRow),.sl (d.op.map OpM.row),.sl (d.ru.map RuM.row),.sl (d.st.map StM.row),.int u.k,.int u.n,.str u.s,.sl (u.as.map Tm.row)]=match (d.ru.drop i).findIdx? (fun r=>(fireR r u).isSome) with
  | some j=>some (1,[.int ((i+j:Nat):Int)])
  | none=>some (0,[]):=by
  intro n;induction n with
  | zero =>
   intro i hi;obtain rfl:i=d.ru.length:=by omega
   rw [e182_0_1];simp only [B6,C3,D5,H4,H2,C9,T5]
  | succ n ih =>
   intro i hi;have hlt:i<d.ru.length:=by omega
   have h1:=r264 d.ru[i] (hd.ru (C0 hlt)) u hu;have h2:=ih (i+1) (by omega)
   rw [e182_0_1,C2 hlt,List.findIdx?_cons];simp only [B6,C3,hlt,H3,H1,inbN,B9,rowAt_map hlt,wrap_succ hlt (maxB (by omega)),RuM.row,nv0,nvS,dvI,dvB,dvS,dvL,B5,h1,h2]
   cases fireR d.ru[i] u with
   | some w=>rfl
   | none =>
    simp only [H2,Option.isSome_none,S0,if_false];cases (d.ru.drop (i+1)).findIdx? (fun r=>(fireR r u).isSome) with
    | none=>rfl
    | some j=>simp only [K7,show i+(j+1)=i+1+j by omega]
 have h:=key d.ru.length 0 (by omega)
 simp only [D1,C4,E8] at h;rw [e182_0_0];simp only [h];unfold rootF;cases d.ru.findIdx? (fun r=>(fireR r u).isSome) <;> rfl
end Go.Q.S
end
section
namespace Go.Q.S
open Go Go.Q Go.Proofs
theorem r170 (d:DfM) (hd:DfG d):∀ t:Tm,Gt d.op t->t.nodes<=60->∀ acc:List Int,acc.length+t.nodes<=1048576->rn ⟨170,0,0⟩ [.sl (d.so.map sRow),.sl (d.op.map OpM.row),.sl (d.ru.map RuM.row),.sl (d.st.map StM.row),.int t.k,.int t.n,.str t.s,.sl (t.as.map Tm.row),.sl (acc.map iRow)]=some (0,nrR (nx d t) acc):=Tm.ind fun t ih ht hn acc hac=>by
 have hnd:=Tm.nodes_eq t;have hls:=len_sum (xs:=t.as);have hst:=hd.b.st;have hql:=stL_len d.st t;have hlp:∀ n i,i+n=(stL d.st t).length->rn ⟨170,0,1⟩ [.int ((stL d.st t).length:Int),.int (i:Int),.sl (acc.map iRow),.sl (d.so.map sRow),.sl (d.op.map OpM.row),.sl (d.ru.map RuM.row),.sl (d.st.map StM.row),.int t.k,.int t.n,.str t.s,.sl (t.as.map Tm.row),.int 0,.sl ((stL d.st t).map iRow),.sl []]=match pickF ((stL d.st t).drop i) (t.as.map (nx d)) with
  | some x=>some (1,[.int (x.1:Int),.sl ((acc++x.2).map iRow)])
  | none=>some (0,[.sl (acc.map iRow),.sl (d.so.map sRow),.sl (d.op.map OpM.row),.sl (d.ru.map RuM.row),.sl (d.st.map StM.row),.int t.k,.int t.n,.str t.s,.sl (t.as.map Tm.row),.int 0,.sl []]):=by
  have hq:∀ j∈stL d.st t,0<=j/\j.toNat<t.as.length:=fun j hj=>stL_lt hd ht hj
  generalize stL d.st t=q at hql hq ⊢;intro n;induction n with
  | zero =>
   intro i hi;obtain rfl:i=q.length:=by omega
   rw [e170_0_1];simp only [B6,C3,D5,H4,H2,C9,pick_nil]
  | succ n ih2 =>
   intro i hi;have hlt:i<q.length:=by omega
   obtain ⟨h0,hm⟩:=hq _ (C0 hlt);rw [C2 hlt];rw [e170_0_1];generalize hj:q[i]=j at h0 hm ⊢;obtain ⟨m,rfl⟩:∃ m:Nat,j=(m:Int):=⟨j.toNat,by omega⟩
   rw [B9] at hm;have hmm:=C0 hm;have hms:=mem_sum (f:=Tm.nodes) hmm;have h1:=ih _ hmm (ht.sub hmm) (by omega) (acc++[(m:Int)]) (by simp; omega)
   have h2:=rCloneI (acc.map iRow) (by rw [B6]; omega)
   have hb2:G9 (acc.length+1) M63=true:=nb (by omega)
   simp only [E6,C7,E0,iRow] at h1;rw [pick_cons hm];simp only [B6,C3,hlt,H3,H1,inbN,B9,rowAt_map hlt,wrap_succ hlt (maxB (by omega)),hj,hm,rowAt_map hm,Tm.row_eq,iRow,nv0,nvS,dvI,dvB,dvS,dvL,B5,C8,D6,E8,hb2]
   simp only [h2,nv0,nvS,dvI,dvB,dvS,dvL,B5,B6,hb2,H1,h1];have h3:=ih2 (i+1) (by omega)
   cases nx d t.as[m] with
   | some x=>simp only [nrR,nv0,nvS,dvI,dvB,dvS,dvL,B5,H1,E1,D4,D0]
   | none=>simp only [nrR,nv0,nvS,dvI,dvB,dvS,dvL,B5,H2,h3]
 have h0:=hlp (stL d.st t).length 0 (by omega)
 simp only [D1,C4] at h0;have h1:=r254 d hd.b t;have h2:=r256 d hd t hn;rw [e170_0_0,nx_eq,h1];simp only [nv0,nvS,dvI,dvB,dvS,dvL,B5,B6,h0];cases pickF (stL d.st t) (t.as.map (nx d)) with
 | some x=>rfl
 | none =>
  simp only [nv0,nvS,dvI,dvB,dvS,dvL,B5,D7,H1,H2,h2];cases rootF d.ru t with
  | none=>rfl
  | some i =>
   have q:¬((i:Int)<0):=by omega
   simp only [optZ,q,H4,H2,K7,nrR,J4]
theorem r104 (d:DfM) (hd:DfG d):∀ t:Tm,Gt d.op t->t.nodes<=60->rn ⟨104,0,0⟩ [.sl (d.so.map sRow),.sl (d.op.map OpM.row),.sl (d.ru.map RuM.row),.sl (d.st.map StM.row),.int t.k,.int t.n,.str t.s,.sl (t.as.map Tm.row)]=some (0,nrS (nx d t)):=Tm.ind fun t ih ht hn=>by
 have hnd:=Tm.nodes_eq t;have hls:=len_sum (xs:=t.as);have hst:=hd.b.st;have hql:=strA_len d.st t.s;have hlp:∀ n i,i+n=(strA d.st t.s).length->rn ⟨104,0,1⟩ [.int (i:Int),.sl (d.so.map sRow),.sl (d.op.map OpM.row),.sl (d.ru.map RuM.row),.sl (d.st.map StM.row),.int t.k,.int t.n,.str t.s,.sl (t.as.map Tm.row),.int 0,.sl ((strA d.st t.s).map iRow),.sl []]=match pickF (if t.k=2 then (strA d.st t.s).drop i else []) (t.as.map (nx d)) with
  | some x=>some (1,[.int (x.1:Int),.sl (x.2.map iRow)])
  | none=>some (0,[.sl (d.so.map sRow),.sl (d.op.map OpM.row),.sl (d.ru.map RuM.row),.sl (d.st.map StM.row),.int t.k,.int t.n,.str t.s,.sl (t.as.map Tm.row),.int 0,.sl []]):=by
  by_cases hk:t.k=2
  · have hq:∀ j∈strA d.st t.s,0<=j/\j.toNat<t.as.length:=fun j hj=>stL_lt hd ht (by unfold stL; rw [H5 hk]; exact hj)
    generalize strA d.st t.s=q at hql hq ⊢;intro n;simp only [H5 hk];induction n with
    | zero =>
     intro i hi;obtain rfl:i=q.length:=by omega
     rw [e104_0_1];simp only [B6,C3,D5,H4,H2,C9,pick_nil]
    | succ n ih2 =>
     intro i hi;have hlt:i<q.length:=by omega
     obtain ⟨h0,hm⟩:=hq _ (C0 hlt);rw [C2 hlt];rw [e104_0_1];generalize hj:q[i]=j at h0 hm ⊢;obtain ⟨m,rfl⟩:∃ m:Nat,j=(m:Int):=⟨j.toNat,by omega⟩
     rw [B9] at hm;have hmm:=C0 hm;have hms:=mem_sum (f:=Tm.nodes) hmm;have h1:=ih _ hmm (ht.sub hmm) (by omega)
     have q2:(m:Int)<=(t.as.length:Int)-1:=by omega
     have hw:IntKind.i64.wrap ((t.as.length:Int)-1)=(t.as.length:Int)-1:=IntWalk.i64_in _ (by omega)
     have h3:=ih2 (i+1) (by omega)
     rw [pick_cons hm,H7 hk];simp only [B6,C3,hlt,H3,H1,inbN,B9,rowAt_map hlt,wrap_succ hlt (maxB (by omega)),hj,hm,hw,h0,q2,rIn,J8,D9,H2,rowAt_map hm,Tm.row_eq,iRow,nv0,nvS,dvI,dvB,dvS,dvL,B5,h1]
     cases hx:nx d t.as[m] with
     | some x =>
      obtain ⟨u,_,_,hu,_⟩:=nx_spec d _ x.1 x.2 hx;have hun:=atT_nodes x.2 _ u hu;have hb2:G9 (0+1+x.2.length) M63=true:=nb (by omega)
      simp only [nrS,nv0,nvS,dvI,dvB,dvS,dvL,B5,H1,C8,D6,B6,hb2,D4,D0,C7,iRow]
     | none=>simp only [nrS,nv0,nvS,dvI,dvB,dvS,dvL,B5,H2,h3]
  · intro n i hi
    rw [H6 hk,pick_nil,e104_0_1,H8 hk];cases decide ((i:Int)<(((strA d.st t.s).map iRow).length:Int)) <;> rfl
 have h0:=hlp (strA d.st t.s).length 0 (by omega)
 simp only [D1,C4] at h0;have h1:=fun a b c=>r181 a b c d.st hd.b.st t.s
 have h2:=r182 d hd t hn;have hmx:∀ x:Option Nat,rn ⟨183,0,0⟩ [.int (optZ x),.int 0]=some (0,[.int ((x.getD 0:Nat):Int)]):=fun x=>by
  rw [e183_0_0];cases x with
  | none=>rfl
  | some i =>
   by_cases hi:(0:Int)<optZ (some i)
   · rw [H7 hi]; rfl
   · rw [H8 hi]
     simp only [optZ] at hi;obtain rfl:i=0:=by omega
     rfl
 rw [e104_0_0,nx_eq,h1];simp only [nv0,nvS,dvI,dvB,dvS,dvL,B5,h0];have e:(if t.k=2 then strA d.st t.s else [])=stL d.st t:=rfl
 rw [e];cases pickF (stL d.st t) (t.as.map (nx d)) with
 | some x=>rfl
 | none =>
  simp only [nv0,nvS,dvI,dvB,dvS,dvL,B5,D7,H1,H2,h2,hmx];cases rootF d.ru t with
  | none=>rfl
  | some i =>
   have q:(0:Int)<=(i:Int):=by omega
   simp only [optZ,q,H3,K7,nrS,Option.getD_some,E0]
end Go.Q.S
end
section
namespace Go.Q.S
open Go Go.Q Go.Proofs
end Go.Q.S
end
section
namespace Go.Q.S
open Go Go.Q Go.Proofs
end Go.Q.S
end
section
namespace Go.Q.S
open Go Go.Q Go.Proofs
theorem r120 (vars:List ByteArray) (t:Tm) (h:Small t) (cs:Rows) (c:Int):rn ⟨120,0,0⟩ [.sl (vars.map sRow),.int t.k,.int t.n,.str t.s,.sl (t.as.map Tm.row),.sl cs,.int c]=some (0,[.int (S.instR vars t c).k,.int (S.instR vars t c).n,.str (S.instR vars t c).s,.bool (isC vars.length c),.sl ((S.instR vars t c).as.map Tm.row)]):=by
 have e1:=r169 vars.length c;have e2:=r199 vars c;have e3:=r198 (caseS vars c) (caseS_len vars c) (caseS_small vars c) t h;have e4:=r197 _ (aS_small (caseS_small vars c) t h);rw [e120_0_0];simp only [B6,e1,nv0,nvS,dvI,dvB,dvS,dvL,B5];unfold S.instR;cases hc:isC vars.length c with
 | false=>rfl
 | true=>simp only [D9,H2,e2,e3,e4,nv0,nvS,dvI,dvB,dvS,dvL,B5,if_true]; rfl
end Go.Q.S
end
section
namespace Go.Q.S
open Go Go.Q Go.Proofs
theorem symI (d:DfM) (hb:DfB d) (vars:List ByteArray) (hv:vars.length<=1048576) (hvs:∀ x∈vars,x.size<=maxLen) (t:Tm) (hw:Wt t) (hn:t.nodes<=1048577) (cs:List Int) (hcs:cs.length<=1048576):rn ⟨86,0,0⟩ [.sl (d.so.map sRow),.sl (d.op.map OpM.row),.sl (d.ru.map RuM.row),.sl (d.st.map StM.row),.sl (vars.map sRow),.int t.k,.int t.n,.str t.s,.sl (t.as.map Tm.row),.sl (cs.map iRow)]=some (0,[.bool (symC d vars t cs)]):=by
 have hl1:∀ n i,i+n=vars.length->rn ⟨86,0,1⟩ [.sl (vars.map sRow),.int (vars.length:Int),.int (i:Int),.sl (d.so.map sRow),.sl (d.op.map OpM.row),.sl (d.ru.map RuM.row),.sl (d.st.map StM.row),.sl (vars.map sRow),.int t.k,.int t.n,.str t.s,.sl (t.as.map Tm.row),.sl (cs.map iRow)]=bif (vars.drop i).all isVr then some (0,[.sl (d.so.map sRow),.sl (d.op.map OpM.row),.sl (d.ru.map RuM.row),.sl (d.st.map StM.row),.sl (vars.map sRow),.int t.k,.int t.n,.str t.s,.sl (t.as.map Tm.row),.sl (cs.map iRow)]) else some (1,[]):=by
  intro n;induction n with
  | zero =>
   intro i hi;obtain rfl:i=vars.length:=by omega
   rw [e86_0_1];simp only [B6,C3,D5,H4,H2,C9,N2,H1]
  | succ n ih =>
   intro i hi;have hlt:i<vars.length:=by omega
   rw [e86_0_1,C2 hlt];have h1:=r164 vars[i] (hvs _ (C0 hlt));simp only [B6,C3,hlt,H3,H1,inbN,B9,rowAt_map hlt,wrap_succ hlt (maxB (by omega)),sRow,nv0,nvS,dvI,dvB,dvS,dvL,B5,h1,ih (i+1) (by omega),K0]
   cases isVr vars[i] <;> rfl
 have h1:=hl1 vars.length 0 (by omega)
 simp only [D1,C4] at h1;have hl3:∀ n i,i+n=cs.length->rn ⟨86,0,3⟩ [.sl (cs.map iRow),.int (cs.length:Int),.int (i:Int),.sl (vars.map sRow),.int t.k,.int t.n,.str t.s,.sl (t.as.map Tm.row),.sl (cs.map iRow)]=bif incC vars.length (prv cs i) (cs.drop i) then some (0,[]) else some (1,[]):=by
  intro n;induction n with
  | zero =>
   intro i hi;obtain rfl:i=cs.length:=by omega
   rw [e86_0_3];simp only [B6,C3,D5,H4,H2,C9,incC,H1]
  | succ n ih =>
   intro i hi;have hlt:i<cs.length:=by omega
   have h1:=r169 vars.length cs[i];have hp:prv cs (i+1)=some cs[i]:=by simp [prv,hlt]
   have h2:=ih (i+1) (by omega)
   rw [hp] at h2;rw [e86_0_3,C2 hlt];simp only [B6,C3,hlt,H3,H1,inbN,B9,rowAt_map hlt,wrap_succ hlt (maxB (by omega)),iRow,nv0,nvS,dvI,dvB,dvS,dvL,B5,h1,incC,h2]
   cases isC vars.length cs[i] with
   | false=>rfl
   | true =>
    rcases i with _ | j
    · simp [prv]
    · have hj:j<cs.length:=by omega
      have q1:(0:Int)<((j+1:Nat):Int):=by omega
      have hw:IntKind.i64.wrap (((j+1:Nat):Int)-1)=(j:Int):=by rw [IntWalk.i64_in _ (by omega)]; omega
      simp only [q1,hw,inbN,hj,H3,H1,H2,D9,F5,B9,rowAt_map hj,iRow,nv0,nvS,dvI,dvB,dvS,dvL,B5,prv,E7 hj];by_cases q:cs[j+1]<=cs[j] <;> simp [q]
 have h8:=hl3 cs.length 0 (by omega)
 simp only [D1,C4,prv] at h8;have h2:=r162 d hb;have h3:=r163 vars hv;have h4:=r165 t (by omega) hw
 have h5:=r166 t hn vars (maxB (by omega))
 have h6:=r168 vars hv;have h7:=r167 (d.so.map sRow) d.op hb.op (wv vars) (by unfold wv; rw [B6]; omega) t hw
 rw [e86_0_0];simp only [B6,h2,h3,nv0,nvS,dvI,dvB,dvS,dvL,B5];unfold symC symV;cases d.valid
 · rfl
 · by_cases q1:vars.length<=3
   · have q1':¬((3:Int)<(vars.length:Int)):=by omega
     simp only [q1,q1',H3,H4,H2,F5,D9];cases dis vars
     · rfl
     · simp only [D9,H2,h1,F5]
       cases vars.all isVr
       · rfl
       · simp only [H1,nv0,nvS,dvI,dvB,dvS,dvL,B5,D7,H1,H2,h4,h5,h6,h7,F5]
         cases t.valid
         · rfl
         · cases within t vars
           · rfl
           · by_cases q2:sortT d.op (wv vars) t=e0
             · simp [q2]
             · simp only [q2,D9,N1,H2,H4,B6,h8,F5]
               cases incC vars.length none cs <;> rfl
   · have q1':((3:Int)<(vars.length:Int)):=by omega
     simp [q1,q1']
theorem symS (d:DfM) (hb:DfB d) (vars:List ByteArray) (hv:vars.length<=1048576) (hvs:∀ x∈vars,x.size<=maxLen) (t:Tm) (hw:Wt t) (hn:t.nodes<=1048577) (cs:List Int) (hcs:cs.length<=1048576):rn ⟨79,0,0⟩ [.sl (d.so.map sRow),.sl (d.op.map OpM.row),.sl (d.ru.map RuM.row),.sl (d.st.map StM.row),.sl (vars.map sRow),.int t.k,.int t.n,.str t.s,.sl (t.as.map Tm.row),.sl (cs.map iRow)]=some (0,[.bool (symC d vars t cs)]):=by
 have hl1:∀ n i,i+n=cs.length->rn ⟨79,0,1⟩ [.int (i:Int),.sl (d.so.map sRow),.sl (d.op.map OpM.row),.sl (d.ru.map RuM.row),.sl (d.st.map StM.row),.sl (vars.map sRow),.int t.k,.int t.n,.str t.s,.sl (t.as.map Tm.row),.sl (cs.map iRow)]=bif incC vars.length (prv cs i) (cs.drop i) then some (0,[.sl (d.so.map sRow),.sl (d.op.map OpM.row),.sl (d.ru.map RuM.row),.sl (d.st.map StM.row),.sl (vars.map sRow),.int t.k,.int t.n,.str t.s,.sl (t.as.map Tm.row),.sl (cs.map iRow)]) else some (1,[]):=by
  intro n;induction n with
  | zero =>
   intro i hi;obtain rfl:i=cs.length:=by omega
   rw [e79_0_1];simp only [B6,C3,D5,H4,H2,C9,incC,H1]
  | succ n ih =>
   intro i hi;have hlt:i<cs.length:=by omega
   have h1:=r155 vars.length;have hp:prv cs (i+1)=some cs[i]:=by simp [prv,hlt]
   have h2:=ih (i+1) (by omega)
   rw [hp] at h2;rw [e79_0_1,C2 hlt];simp only [B6,C3,hlt,H3,H1,inbN,B9,rowAt_map hlt,wrap_succ hlt (maxB (by omega)),iRow,nv0,nvS,dvI,dvB,dvS,dvL,B5,h1,rIn,wcnt,incC,h2]
   cases isC vars.length cs[i] with
   | false=>rfl
   | true =>
    rcases i with _ | j
    · simp [prv]
    · have hj:j<cs.length:=by omega
      have q1:(0:Int)<((j+1:Nat):Int):=by omega
      have hw:IntKind.i64.wrap (((j+1:Nat):Int)-1)=(j:Int):=by rw [IntWalk.i64_in _ (by omega)]; omega
      simp only [q1,hw,inbN,hj,H3,H1,H2,D9,F5,B9,rowAt_map hj,iRow,nv0,nvS,dvI,dvB,dvS,dvL,B5,prv,E7 hj];by_cases q:cs[j+1]<=cs[j] <;> simp [q]
 have h1:=hl1 cs.length 0 (by omega)
 simp only [D1,C4,prv] at h1;have h2:=r150 d hb;have h3:=r151 vars hv hvs;have h4:=r152 t (by omega) hw
 have hnt:=names_nodes t;have hsl:=srtN_len t.names;have h5:=r154 t hn;have h5':=r153 (srtN t.names) vars (by omega) (maxB (by omega))
 have h6:=r157 vars hv;have h7:=r156 (d.so.map sRow) d.op hb.op (wv vars) (by unfold wv; rw [B6]; omega) t hw
 rw [e79_0_0];simp only [B6,h1,h2,h3,h4,h5,h5',h6,h7,nv0,nvS,dvI,dvB,dvS,dvL,B5,D7,H1,H2];unfold symC symV;cases d.valid <;> try rfl
 cases decide (vars.length<=3) <;> try rfl
 cases dis vars <;> try rfl
 cases vars.all isVr <;> try rfl
 cases t.valid <;> try rfl
 have hw:=wo_srt' t vars;cases hw2:within t vars with
 | true =>
  rw [hw2] at hw;have:(wo (srtN t.names) vars).length=0:=hw.2 rfl;cases incC vars.length none cs with
  | false=>simp [this]; rfl
  | true =>
   simp only [this,C4,Int.lt_irrefl,H4,H2,H1,D9,nv0,nvS,dvI,dvB,dvS,dvL,B5,D7,H1,H2,h6,h7];simp
 | false =>
  rw [hw2] at hw;have:¬(wo (srtN t.names) vars).length=0:=fun h=>by have:=hw.1 h; simp at this
  have:0<(wo (srtN t.names) vars).length:=by omega
  simp [this]
end Go.Q.S
end
