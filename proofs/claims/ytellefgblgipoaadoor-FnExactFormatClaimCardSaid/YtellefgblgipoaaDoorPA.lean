/- The functions of this seat, as that machine runs them, part 1. -/
import Derived.Test.YtellefgblgipoaaDoorQC
import Derived.Test.YtellefgblgipoaaDoorffX
import Derived.Test.YtellefgblgipoaaDoorMA
import Derived.Test.YtellefgblgipoaaDoorQD
import Derived.Test.YtellefgblgipoaaDoorChecked
set_option linter.unusedVariables false
set_option linter.unusedSimpArgs false
open Bool renaming and_eq_true->B5,false_eq_true->K6,not_true->K9,and_true->N9,not_false->O2,and_self->Q4
open Int renaming toNat_natCast->D4,ofNat_lt->E3,natCast_zero->F2
open List renaming map_cons->B9,getElem_mem->C1,mem_cons->C4,all_eq_true->C7,getD_cons_zero->C9,getD_cons_succ->D0,length_map->D2,length_eq_zero_iff->D5,cons_append->D8,drop_eq_getElem_cons->E1,nil_append->E4,length_cons->F1,sum_cons->F7,length_append->G5,drop_length->G8,drop_zero->J1,cons->J3,map_nil->N4,drop_succ_cons->N6,all_cons->P2,getElem_cons_zero->P4,length_nil->P5
open Nat renaming beq->C5,lt_succ_self->F6,le_trans->F9,lt_irrefl->G7,zero_add->K3,ble->K4,beq_refl->K5,zero_le->O9,ble_eq_true_of_le->P6
open Option renaming bind_some->B8,some->C0
section
namespace Go.Q.S
open Go Go.Q Go.Proofs
def L9:List CT:=[.str]
theorem ty9:H.ty 9=some ⟨false,L9,[]⟩:=by kernel_rfl
theorem wl9 {ds:List D} (h:WL H ds L9):∃ a0,ds=[D.str a0]/\a0.size<=maxLen:=by
 unfold L9 at h;obtain ⟨a0,_,rfl,b0,h⟩:=wl_str h;obtain rfl:=wl_nil h;exact ⟨a0,rfl,b0⟩
def L33:List CT:=[.int .i64,.int .i64,.str,.sl 33]
theorem ty33:H.ty 33=some ⟨true,L33,[(0,3),(1,3),(2,9),(3,31)]⟩:=by kernel_rfl
theorem wl33 {ds:List D} (h:WL H ds L33):∃ a0 a1 a2 a3,ds=[D.int a0,D.int a1,D.str a2,D.sl a3]/\a2.size<=maxLen/\a3.length<=maxLen/\WRs H a3 L33:=by
 unfold L33 at h;obtain ⟨a0,_,rfl,_,h⟩:=wl_int h;obtain ⟨a1,_,rfl,_,h⟩:=wl_int h;obtain ⟨a2,_,rfl,b2,h⟩:=wl_str h;obtain ⟨a3,_,rfl,b3,c3,h⟩:=wl_sl ty33 h;obtain rfl:=wl_nil h;exact ⟨a0,a1,a2,a3,rfl,b2,b3,c3⟩
def L60:List CT:=[.int .i64,.int .i64,.int .i64,.str,.sl 33,.int .i64,.int .i64,.str,.sl 33]
theorem ty60:H.ty 60=some ⟨true,L60,[(0,3),(1,33),(5,33)]⟩:=by kernel_rfl
theorem wl60 {ds:List D} (h:WL H ds L60):∃ a0 a1 a2 a3 a4 a5 a6 a7 a8,ds=[D.int a0,D.int a1,D.int a2,D.str a3,D.sl a4,D.int a5,D.int a6,D.str a7,D.sl a8]/\a3.size<=maxLen/\a4.length<=maxLen/\WRs H a4 L33/\a7.size<=maxLen/\a8.length<=maxLen/\WRs H a8 L33:=by
 unfold L60 at h;obtain ⟨a0,_,rfl,_,h⟩:=wl_int h;obtain ⟨a1,_,rfl,_,h⟩:=wl_int h;obtain ⟨a2,_,rfl,_,h⟩:=wl_int h;obtain ⟨a3,_,rfl,b3,h⟩:=wl_str h;obtain ⟨a4,_,rfl,b4,c4,h⟩:=wl_sl ty33 h;obtain ⟨a5,_,rfl,_,h⟩:=wl_int h;obtain ⟨a6,_,rfl,_,h⟩:=wl_int h;obtain ⟨a7,_,rfl,b7,h⟩:=wl_str h;obtain ⟨a8,_,rfl,b8,c8,h⟩:=wl_sl ty33 h;obtain rfl:=wl_nil h;exact ⟨a0,a1,a2,a3,a4,a5,a6,a7,a8,rfl,b3,b4,c4,b7,b8,c8⟩
def L36:List CT:=[.sl 9,.int .i64,.int .i64,.str,.sl 33,.int .i64,.int .i64,.str,.sl 33,.sl 60]
theorem wl36 {ds:List D} (h:WL H ds L36):∃ a0 a1 a2 a3 a4 a5 a6 a7 a8 a9,ds=[D.sl a0,D.int a1,D.int a2,D.str a3,D.sl a4,D.int a5,D.int a6,D.str a7,D.sl a8,D.sl a9]/\a0.length<=maxLen/\WRs H a0 L9/\a3.size<=maxLen/\a4.length<=maxLen/\WRs H a4 L33/\a7.size<=maxLen/\a8.length<=maxLen/\WRs H a8 L33/\a9.length<=maxLen/\WRs H a9 L60:=by
 unfold L36 at h;obtain ⟨a0,_,rfl,b0,c0,h⟩:=wl_sl ty9 h;obtain ⟨a1,_,rfl,_,h⟩:=wl_int h;obtain ⟨a2,_,rfl,_,h⟩:=wl_int h;obtain ⟨a3,_,rfl,b3,h⟩:=wl_str h;obtain ⟨a4,_,rfl,b4,c4,h⟩:=wl_sl ty33 h;obtain ⟨a5,_,rfl,_,h⟩:=wl_int h;obtain ⟨a6,_,rfl,_,h⟩:=wl_int h;obtain ⟨a7,_,rfl,b7,h⟩:=wl_str h;obtain ⟨a8,_,rfl,b8,c8,h⟩:=wl_sl ty33 h;obtain ⟨a9,_,rfl,b9,c9,h⟩:=wl_sl ty60 h;obtain rfl:=wl_nil h;exact ⟨a0,a1,a2,a3,a4,a5,a6,a7,a8,a9,rfl,b0,c0,b3,b4,c4,b7,b8,c8,b9,c9⟩
theorem q17 {rs rs':Rows} (hl:rs.length<=maxLen) (hl':rs'.length<=maxLen) (hW:WRs H rs L9) (hW':WRs H rs' L9):rn ⟨17,0,0⟩ [.sl rs,.sl rs']=some (0,[.bool (eqb rs rs')]):=by
 show rn ⟨17,0,0⟩ _=_
 rw [e17_0_0];by_cases hll:rs'.length=rs.length
 · have hf:=eq_loop (F:=fun i=>rn ⟨17,0,1⟩ [.sl rs,.sl rs',.int (i:Int)]) (A:=some (0,[])) (B:=some (1,[])) hll (fun i hi=>?_) ?_
   · simp only [F2] at hf
     rw [H7 (by omega:(rs.length:Int)=(rs'.length:Int))]
     simp only [K9,H2];rw [hf];cases eqb rs rs' <;> rfl
   · have hi2:i<rs'.length:=by omega
     have hw:=WRs_mem hW (C1 hi);have hw':=WRs_mem hW' (C1 hi2);obtain ⟨a0,hr,b0⟩:=wl9 hw;obtain ⟨y0,hr',by0⟩:=wl9 hw';skip
     rw [e17_0_1];simp only [D4,rowAt_eq hi,rowAt_eq hi2,hr,hr',inbN,hi,hi2,H3,H1,E3,nth,C9,D0,D.I,D.S,D.L,D.B,wrap_succ hi hl];simp only [eqb_cons,eqb_nil,eqb_int,eqb_str,eqb_bool,eqb_sl,N9];cases (decide (a0=y0)) <;> rfl
   · skip
     rw [e17_0_1];simp
 · rw [H8 (by omega:¬(rs.length:Int)=(rs'.length:Int)),eqb_len (fun h=>hll h.symm)]
   rfl
theorem q28 {rs rs':Rows} (hl:rs.length<=maxLen) (hl':rs'.length<=maxLen) (hW:WRs H rs L33) (hW':WRs H rs' L33) (hel:∀ r r',r∈rs->r'∈rs'->rn ⟨18,0,0⟩ (r++r')=some (0,[.bool (eqb r r')])):rn ⟨28,0,0⟩ [.sl rs,.sl rs']=some (0,[.bool (eqb rs rs')]):=by
 show rn ⟨28,0,0⟩ _=_
 rw [e28_0_0];by_cases hll:rs'.length=rs.length
 · have hf:=eq_loop (F:=fun i=>rn ⟨28,0,1⟩ [.sl rs,.sl rs',.int (i:Int)]) (A:=some (0,[])) (B:=some (1,[])) hll (fun i hi=>?_) ?_
   · simp only [F2] at hf
     rw [H7 (by omega:(rs.length:Int)=(rs'.length:Int))]
     simp only [K9,H2];rw [hf];cases eqb rs rs' <;> rfl
   · have hi2:i<rs'.length:=by omega
     have hw:=WRs_mem hW (C1 hi);have hw':=WRs_mem hW' (C1 hi2);obtain ⟨a0,a1,a2,a3,hr,b2,b3,c3⟩:=wl33 hw;obtain ⟨y0,y1,y2,y3,hr',by2,by3,cy3⟩:=wl33 hw';have hc:=hel _ _ (C1 hi) (C1 hi2);rw [hr,hr'] at hc;simp only [D8,E4] at hc;skip
     skip
     rw [e28_0_1];simp only [D4,rowAt_eq hi,rowAt_eq hi2,hr,hr',inbN,hi,hi2,H3,H1,E3,nth,C9,D0,D.I,D.S,D.L,D.B,wrap_succ hi hl];simp only [hc,B8,nth,C9,D0,D.I,D.S,D.L,D.B];cases (eqb [D.int a0,D.int a1,D.str a2,D.sl a3] [D.int y0,D.int y1,D.str y2,D.sl y3]) <;> rfl
   · skip
     rw [e28_0_1];simp
 · rw [H8 (by omega:¬(rs.length:Int)=(rs'.length:Int)),eqb_len (fun h=>hll h.symm)]
   rfl
theorem q18:∀ (N:Nat) (ds es:List D),SizeOf.sizeOf ds<N->WL H ds L33->WL H es L33->rn ⟨18,0,0⟩ (ds++es)=some (0,[.bool (eqb ds es)])
 | 0,ds,es,hN,_,_=>absurd hN (Nat.not_lt_zero _)
 | N+1,ds,es,hN,h,h'=>by
  have h0:=h;have h0':=h';obtain ⟨a0,a1,a2,a3,rfl,b2,b3,c3⟩:=wl33 h;obtain ⟨y0,y1,y2,y3,rfl,by2,by3,cy3⟩:=wl33 h';show rn ⟨18,0,0⟩ [D.int a0,D.int a1,D.str a2,D.sl a3,D.int y0,D.int y1,D.str y2,D.sl y3]=_
  rw [e18_0_0];have e3:=q28 b3 by3 c3 cy3 (fun r r' hr hr'=>q18 N r r' (by have h1:=size_row hr; simp only [J3.sizeOf_spec,D.sl.sizeOf_spec] at hN; omega) (WRs_mem c3 hr) (WRs_mem cy3 hr'))
  skip
  simp only [e3,B8,nth,C9,D0,D.I,D.S,D.L,D.B];simp only [eq_step,eq_end,eqb_cons,eqb_nil,eqb_int,eqb_str,eqb_bool,eqb_sl,N9,Bool.and_assoc]
theorem q29 {ds es:List D} (h:WL H ds L60) (h':WL H es L60):rn ⟨29,0,0⟩ (ds++es)=some (0,[.bool (eqb ds es)]):=by
 have h0:=h;have h0':=h';obtain ⟨a0,a1,a2,a3,a4,a5,a6,a7,a8,rfl,b3,b4,c4,b7,b8,c8⟩:=wl60 h;obtain ⟨y0,y1,y2,y3,y4,y5,y6,y7,y8,rfl,by3,by4,cy4,by7,by8,cy8⟩:=wl60 h';show rn ⟨29,0,0⟩ [D.int a0,D.int a1,D.int a2,D.str a3,D.sl a4,D.int a5,D.int a6,D.str a7,D.sl a8,D.int y0,D.int y1,D.int y2,D.str y3,D.sl y4,D.int y5,D.int y6,D.str y7,D.sl y8]=_
 rw [e29_0_0];have w1:WL H [D.int a1,D.int a2,D.str a3,D.sl a4] L33:=WL.part 1 4 h0;have w1p:WL H [D.int y1,D.int y2,D.str y3,D.sl y4] L33:=WL.part 1 4 h0';have e1:=q18 _ _ _ (F6 _) w1 w1p;simp only [D8,E4] at e1;skip
 have w5:WL H [D.int a5,D.int a6,D.str a7,D.sl a8] L33:=WL.part 5 4 h0;have w5p:WL H [D.int y5,D.int y6,D.str y7,D.sl y8] L33:=WL.part 5 4 h0';have e5:=q18 _ _ _ (F6 _) w5 w5p;simp only [D8,E4] at e5;skip
 simp only [e1,e5,B8,nth,C9,D0,D.I,D.S,D.L,D.B];simp only [eq_step,eq_end,eqb_cons,eqb_nil,eqb_int,eqb_str,eqb_bool,eqb_sl,N9,Bool.and_assoc]
theorem q19 {rs rs':Rows} (hl:rs.length<=maxLen) (hl':rs'.length<=maxLen) (hW:WRs H rs L60) (hW':WRs H rs' L60):rn ⟨19,0,0⟩ [.sl rs,.sl rs']=some (0,[.bool (eqb rs rs')]):=by
 show rn ⟨19,0,0⟩ _=_
 rw [e19_0_0];by_cases hll:rs'.length=rs.length
 · have hf:=eq_loop (F:=fun i=>rn ⟨19,0,1⟩ [.sl rs,.sl rs',.int (i:Int)]) (A:=some (0,[])) (B:=some (1,[])) hll (fun i hi=>?_) ?_
   · simp only [F2] at hf
     rw [H7 (by omega:(rs.length:Int)=(rs'.length:Int))]
     simp only [K9,H2];rw [hf];cases eqb rs rs' <;> rfl
   · have hi2:i<rs'.length:=by omega
     have hw:=WRs_mem hW (C1 hi);have hw':=WRs_mem hW' (C1 hi2);obtain ⟨a0,a1,a2,a3,a4,a5,a6,a7,a8,hr,b3,b4,c4,b7,b8,c8⟩:=wl60 hw;obtain ⟨y0,y1,y2,y3,y4,y5,y6,y7,y8,hr',by3,by4,cy4,by7,by8,cy8⟩:=wl60 hw';have hc:=q29 hw hw';rw [hr,hr'] at hc;simp only [D8,E4] at hc;skip
     skip
     rw [e19_0_1];simp only [D4,rowAt_eq hi,rowAt_eq hi2,hr,hr',inbN,hi,hi2,H3,H1,E3,nth,C9,D0,D.I,D.S,D.L,D.B,wrap_succ hi hl];simp only [hc,B8,nth,C9,D0,D.I,D.S,D.L,D.B];cases (eqb [D.int a0,D.int a1,D.int a2,D.str a3,D.sl a4,D.int a5,D.int a6,D.str a7,D.sl a8] [D.int y0,D.int y1,D.int y2,D.str y3,D.sl y4,D.int y5,D.int y6,D.str y7,D.sl y8]) <;> rfl
   · skip
     rw [e19_0_1];simp
 · rw [H8 (by omega:¬(rs.length:Int)=(rs'.length:Int)),eqb_len (fun h=>hll h.symm)]
   rfl
theorem q8 {ds es:List D} (h:WL H ds L36) (h':WL H es L36):rn ⟨8,0,0⟩ (ds++es)=some (0,[.bool (eqb ds es)]):=by
 have h0:=h;have h0':=h';obtain ⟨a0,a1,a2,a3,a4,a5,a6,a7,a8,a9,rfl,b0,c0,b3,b4,c4,b7,b8,c8,b9,c9⟩:=wl36 h;obtain ⟨y0,y1,y2,y3,y4,y5,y6,y7,y8,y9,rfl,by0,cy0,by3,by4,cy4,by7,by8,cy8,by9,cy9⟩:=wl36 h';show rn ⟨8,0,0⟩ [D.sl a0,D.int a1,D.int a2,D.str a3,D.sl a4,D.int a5,D.int a6,D.str a7,D.sl a8,D.sl a9,D.sl y0,D.int y1,D.int y2,D.str y3,D.sl y4,D.int y5,D.int y6,D.str y7,D.sl y8,D.sl y9]=_
 rw [e8_0_0];have e0:=q17 b0 by0 c0 cy0;skip
 have w1:WL H [D.int a1,D.int a2,D.str a3,D.sl a4] L33:=WL.part 1 4 h0;have w1p:WL H [D.int y1,D.int y2,D.str y3,D.sl y4] L33:=WL.part 1 4 h0';have e1:=q18 _ _ _ (F6 _) w1 w1p;simp only [D8,E4] at e1;skip
 have w5:WL H [D.int a5,D.int a6,D.str a7,D.sl a8] L33:=WL.part 5 4 h0;have w5p:WL H [D.int y5,D.int y6,D.str y7,D.sl y8] L33:=WL.part 5 4 h0';have e5:=q18 _ _ _ (F6 _) w5 w5p;simp only [D8,E4] at e5;skip
 have e9:=q19 b9 by9 c9 cy9;skip
 simp only [e0,e1,e5,e9,B8,nth,C9,D0,D.I,D.S,D.L,D.B];simp only [eq_step,eq_end,eqb_cons,eqb_nil,eqb_int,eqb_str,eqb_bool,eqb_sl,N9,Bool.and_assoc]
def L25:List CT:=[.int .i64,.int .i64,.str,.sl 25]
theorem ty25:H.ty 25=some ⟨true,L25,[(0,3),(1,3),(2,9),(3,23)]⟩:=by kernel_rfl
theorem wl25 {ds:List D} (h:WL H ds L25):∃ a0 a1 a2 a3,ds=[D.int a0,D.int a1,D.str a2,D.sl a3]/\a2.size<=maxLen/\a3.length<=maxLen/\WRs H a3 L25:=by
 unfold L25 at h;obtain ⟨a0,_,rfl,_,h⟩:=wl_int h;obtain ⟨a1,_,rfl,_,h⟩:=wl_int h;obtain ⟨a2,_,rfl,b2,h⟩:=wl_str h;obtain ⟨a3,_,rfl,b3,c3,h⟩:=wl_sl ty25 h;obtain rfl:=wl_nil h;exact ⟨a0,a1,a2,a3,rfl,b2,b3,c3⟩
def L56:List CT:=[.int .i64,.int .i64,.int .i64,.str,.sl 25,.int .i64,.int .i64,.str,.sl 25]
theorem ty56:H.ty 56=some ⟨true,L56,[(0,3),(1,25),(5,25)]⟩:=by kernel_rfl
theorem wl56 {ds:List D} (h:WL H ds L56):∃ a0 a1 a2 a3 a4 a5 a6 a7 a8,ds=[D.int a0,D.int a1,D.int a2,D.str a3,D.sl a4,D.int a5,D.int a6,D.str a7,D.sl a8]/\a3.size<=maxLen/\a4.length<=maxLen/\WRs H a4 L25/\a7.size<=maxLen/\a8.length<=maxLen/\WRs H a8 L25:=by
 unfold L56 at h;obtain ⟨a0,_,rfl,_,h⟩:=wl_int h;obtain ⟨a1,_,rfl,_,h⟩:=wl_int h;obtain ⟨a2,_,rfl,_,h⟩:=wl_int h;obtain ⟨a3,_,rfl,b3,h⟩:=wl_str h;obtain ⟨a4,_,rfl,b4,c4,h⟩:=wl_sl ty25 h;obtain ⟨a5,_,rfl,_,h⟩:=wl_int h;obtain ⟨a6,_,rfl,_,h⟩:=wl_int h;obtain ⟨a7,_,rfl,b7,h⟩:=wl_str h;obtain ⟨a8,_,rfl,b8,c8,h⟩:=wl_sl ty25 h;obtain rfl:=wl_nil h;exact ⟨a0,a1,a2,a3,a4,a5,a6,a7,a8,rfl,b3,b4,c4,b7,b8,c8⟩
def L28:List CT:=[.sl 9,.int .i64,.int .i64,.str,.sl 25,.int .i64,.int .i64,.str,.sl 25,.sl 56]
theorem ty28:H.ty 28=some ⟨true,L28,[(0,22),(1,25),(5,25),(9,26)]⟩:=by kernel_rfl
theorem wl28 {ds:List D} (h:WL H ds L28):∃ a0 a1 a2 a3 a4 a5 a6 a7 a8 a9,ds=[D.sl a0,D.int a1,D.int a2,D.str a3,D.sl a4,D.int a5,D.int a6,D.str a7,D.sl a8,D.sl a9]/\a0.length<=maxLen/\WRs H a0 L9/\a3.size<=maxLen/\a4.length<=maxLen/\WRs H a4 L25/\a7.size<=maxLen/\a8.length<=maxLen/\WRs H a8 L25/\a9.length<=maxLen/\WRs H a9 L56:=by
 unfold L28 at h;obtain ⟨a0,_,rfl,b0,c0,h⟩:=wl_sl ty9 h;obtain ⟨a1,_,rfl,_,h⟩:=wl_int h;obtain ⟨a2,_,rfl,_,h⟩:=wl_int h;obtain ⟨a3,_,rfl,b3,h⟩:=wl_str h;obtain ⟨a4,_,rfl,b4,c4,h⟩:=wl_sl ty25 h;obtain ⟨a5,_,rfl,_,h⟩:=wl_int h;obtain ⟨a6,_,rfl,_,h⟩:=wl_int h;obtain ⟨a7,_,rfl,b7,h⟩:=wl_str h;obtain ⟨a8,_,rfl,b8,c8,h⟩:=wl_sl ty25 h;obtain ⟨a9,_,rfl,b9,c9,h⟩:=wl_sl ty56 h;obtain rfl:=wl_nil h;exact ⟨a0,a1,a2,a3,a4,a5,a6,a7,a8,a9,rfl,b0,c0,b3,b4,c4,b7,b8,c8,b9,c9⟩
theorem s9 {rs:Rows} (hl:rs.length<=maxLen) (hW:WRs H rs L9) {b:Int} (hb:Bd b):rn ⟨9,0,0⟩ [.sl rs,.int b]=some (0,[.int (sub b (D.sz (.sl rs)))]):=by
 show rn ⟨9,0,0⟩ _=_
 rw [e9_0_0];simp only [D.sz];refine sz_pay hb hl (F:=fun c=>(rn ⟨9,0,1⟩ [.sl rs,.int c,.int 0]).bind fun r1=>bif C5 r1.1 0 then some (0,[.int ((nth r1.2 0).I)]) else bif C5 r1.1 1 then some (0,[.int ((nth r1.2 0).I)]) else none) fun c hc h0=>?_
 have:=sz_loop (F:=fun i b=>rn ⟨9,0,1⟩ [.sl rs,.int b,.int (i:Int)]) (rows:=rs) (fun i hi b hb h0=>?_) (fun b hb=>?_) hc h0
 · simp only [F2] at this
   show ((rn _ _).bind _=_)
   rw [this];split
   · rfl
   · rename_i hh; rw [sub_neg _ (by omega)]; rfl
 · have hw:=WRs_mem hW (C1 hi)
   obtain ⟨a0,hr,b0⟩:=wl9 hw;rw [hr] at hw;have hz:szL [.str a0]=a0.size:=by simp only [szL,D.sz]; rfl
   have hq:szL rs[i]=a0.size:=by rw [hr]; simp only [szL,D.sz]; omega
   rw [hq];skip
   rw [e9_0_1];simp only [D4,rowAt_eq hi,hr,inbN,hi,H3,H1,E3,nth,C9,D0,D.I,D.S,D.L,D.B,wrap_succ hi hl];rcases sz_case hb b0 with ⟨hh,he⟩ | he
   · rw [H7 hh,H6 (by rw [he]; decide)]; rfl
   · rw [he]
     by_cases hq:0<=sub b a0.size
     · rw [H5 hq,H8 (by omega)]; rfl
     · rw [H6 hq,H7 (by omega)]; rfl
 · skip
   rw [e9_0_1];simp
theorem s20 {rs:Rows} (hl:rs.length<=maxLen) (hW:WRs H rs L25) (hel:∀ r∈rs,∀ b,Bd b->rn ⟨10,0,0⟩ (r++[.int b])=some (0,[.int (sub b (szL r))])) {b:Int} (hb:Bd b):rn ⟨20,0,0⟩ [.sl rs,.int b]=some (0,[.int (sub b (D.sz (.sl rs)))]):=by
 show rn ⟨20,0,0⟩ _=_
 rw [e20_0_0];simp only [D.sz];refine sz_pay hb hl (F:=fun c=>(rn ⟨20,0,1⟩ [.sl rs,.int c,.int 0]).bind fun r1=>bif C5 r1.1 0 then some (0,[.int ((nth r1.2 0).I)]) else bif C5 r1.1 1 then some (0,[.int ((nth r1.2 0).I)]) else none) fun c hc h0=>?_
 have:=sz_loop (F:=fun i b=>rn ⟨20,0,1⟩ [.sl rs,.int b,.int (i:Int)]) (rows:=rs) (fun i hi b hb h0=>?_) (fun b hb=>?_) hc h0
 · simp only [F2] at this
   show ((rn _ _).bind _=_)
   rw [this];split
   · rfl
   · rename_i hh; rw [sub_neg _ (by omega)]; rfl
 · have hw:=WRs_mem hW (C1 hi)
   obtain ⟨a0,a1,a2,a3,hr,b2,b3,c3⟩:=wl25 hw;rw [hr] at hw;have hc:=hel rs[i] (C1 hi) b hb;generalize hq:szL rs[i]=q at hc ⊢;rw [hr] at hc;simp only [D8,E4] at hc;skip
   rw [e20_0_1];simp only [D4,rowAt_eq hi,hr,inbN,hi,H3,H1,E3,nth,C9,D0,D.I,D.S,D.L,D.B,wrap_succ hi hl];rw [hc];simp only [B8,nth,C9,D0,D.I,D.S,D.L,D.B];by_cases hq:0<=sub b q
   · rw [H5 hq,H8 (by omega)]; rfl
   · rw [H6 hq,H7 (by omega)]; rfl
 · skip
   rw [e20_0_1];simp
theorem s10:∀ (N:Nat) (ds:List D),SizeOf.sizeOf ds<N->WL H ds L25->∀ b,Bd b->rn ⟨10,0,0⟩ (ds++[.int b])=some (0,[.int (sub b (szL ds))])
 | 0,ds,hN,_,_,_=>absurd hN (Nat.not_lt_zero _)
 | N+1,ds,hN,h,b,hb=>by
  have h0:=h;obtain ⟨a0,a1,a2,a3,rfl,b2,b3,c3⟩:=wl25 h;show rn ⟨10,0,0⟩ [D.int a0,D.int a1,D.str a2,D.sl a3,.int b]=_
  rw [e10_0_0];rcases sz_case (b:=b) hb b2 with ⟨hh,he⟩ | he
  · simp only [H7 hh,H1,Bool.cond_self]
    exact sub_dead he hb (by simp only [szL,D.sz]; omega)
  simp only [he];have e3:=s20 (b:=(sub b a2.size)) b3 c3 (fun r hr b hb=>s10 N r (by have h1:=size_row hr; simp only [J3.sizeOf_spec,D.sl.sizeOf_spec] at hN; omega) (WRs_mem c3 hr) b hb) (Bd.sub hb _)
  skip
  simp only [e3,B8,nth,C9,D0,D.I,D.S,D.L,D.B];rw [sz_end _ (Bd.sub (Bd.sub hb _) _)];rw [sz_step _ (Bd.sub hb _)];rw [sub_sub hb];exact sub_congr (by simp only [szL,D.sz] <;> omega)
theorem s21 {ds:List D} (h:WL H ds L56) {b:Int} (hb:Bd b):rn ⟨21,0,0⟩ (ds++[.int b])=some (0,[.int (sub b (szL ds))]):=by
 have h0:=h;obtain ⟨a0,a1,a2,a3,a4,a5,a6,a7,a8,rfl,b3,b4,c4,b7,b8,c8⟩:=wl56 h;show rn ⟨21,0,0⟩ [D.int a0,D.int a1,D.int a2,D.str a3,D.sl a4,D.int a5,D.int a6,D.str a7,D.sl a8,.int b]=_
 rw [e21_0_0];have w1:WL H [D.int a1,D.int a2,D.str a3,D.sl a4] L25:=WL.part 1 4 h0;have e1:=s10 _ _ (F6 _) w1 b hb;simp only [D8,E4] at e1;skip
 simp only [e1,B8,nth,C9,D0,D.I,D.S,D.L,D.B];have w5:WL H [D.int a5,D.int a6,D.str a7,D.sl a8] L25:=WL.part 5 4 h0;have e5:=s10 _ _ (F6 _) w5 (sub b (szL [D.int a1,D.int a2,D.str a3,D.sl a4])) (Bd.sub hb _);simp only [D8,E4] at e5;skip
 simp only [e5,B8,nth,C9,D0,D.I,D.S,D.L,D.B];rw [sz_end _ (Bd.sub (Bd.sub hb _) _)];rw [sz_step _ (Bd.sub hb _)];rw [sub_sub hb];exact sub_congr (by simp only [szL,D.sz] <;> omega)
theorem s11 {rs:Rows} (hl:rs.length<=maxLen) (hW:WRs H rs L56) {b:Int} (hb:Bd b):rn ⟨11,0,0⟩ [.sl rs,.int b]=some (0,[.int (sub b (D.sz (.sl rs)))]):=by
 show rn ⟨11,0,0⟩ _=_
 rw [e11_0_0];simp only [D.sz];refine sz_pay hb hl (F:=fun c=>(rn ⟨11,0,1⟩ [.sl rs,.int c,.int 0]).bind fun r1=>bif C5 r1.1 0 then some (0,[.int ((nth r1.2 0).I)]) else bif C5 r1.1 1 then some (0,[.int ((nth r1.2 0).I)]) else none) fun c hc h0=>?_
 have:=sz_loop (F:=fun i b=>rn ⟨11,0,1⟩ [.sl rs,.int b,.int (i:Int)]) (rows:=rs) (fun i hi b hb h0=>?_) (fun b hb=>?_) hc h0
 · simp only [F2] at this
   show ((rn _ _).bind _=_)
   rw [this];split
   · rfl
   · rename_i hh; rw [sub_neg _ (by omega)]; rfl
 · have hw:=WRs_mem hW (C1 hi)
   obtain ⟨a0,a1,a2,a3,a4,a5,a6,a7,a8,hr,b3,b4,c4,b7,b8,c8⟩:=wl56 hw;rw [hr] at hw;have hc:=s21 hw hb;rw [<- hr] at hc;generalize hq:szL rs[i]=q at hc ⊢;rw [hr] at hc;simp only [D8,E4] at hc;skip
   rw [e11_0_1];simp only [D4,rowAt_eq hi,hr,inbN,hi,H3,H1,E3,nth,C9,D0,D.I,D.S,D.L,D.B,wrap_succ hi hl];rw [hc];simp only [B8,nth,C9,D0,D.I,D.S,D.L,D.B];by_cases hq:0<=sub b q
   · rw [H5 hq,H8 (by omega)]; rfl
   · rw [H6 hq,H7 (by omega)]; rfl
 · skip
   rw [e11_0_1];simp
theorem s4 {ds:List D} (h:WL H ds L28) {b:Int} (hb:Bd b):rn ⟨4,0,0⟩ (ds++[.int b])=some (0,[.int (sub b (szL ds))]):=by
 have h0:=h;obtain ⟨a0,a1,a2,a3,a4,a5,a6,a7,a8,a9,rfl,b0,c0,b3,b4,c4,b7,b8,c8,b9,c9⟩:=wl28 h;show rn ⟨4,0,0⟩ [D.sl a0,D.int a1,D.int a2,D.str a3,D.sl a4,D.int a5,D.int a6,D.str a7,D.sl a8,D.sl a9,.int b]=_
 rw [e4_0_0];have e0:=s9 (b:=b) b0 c0 hb;skip
 simp only [e0,B8,nth,C9,D0,D.I,D.S,D.L,D.B];have w1:WL H [D.int a1,D.int a2,D.str a3,D.sl a4] L25:=WL.part 1 4 h0;have e1:=s10 _ _ (F6 _) w1 (sub b (D.sz (.sl a0))) (Bd.sub hb _);simp only [D8,E4] at e1;skip
 simp only [e1,B8,nth,C9,D0,D.I,D.S,D.L,D.B];have w5:WL H [D.int a5,D.int a6,D.str a7,D.sl a8] L25:=WL.part 5 4 h0;have e5:=s10 _ _ (F6 _) w5 (sub (sub b (D.sz (.sl a0))) (szL [D.int a1,D.int a2,D.str a3,D.sl a4])) (Bd.sub (Bd.sub hb _) _);simp only [D8,E4] at e5;skip
 simp only [e5,B8,nth,C9,D0,D.I,D.S,D.L,D.B];have e9:=s11 (b:=(sub (sub (sub b (D.sz (.sl a0))) (szL [D.int a1,D.int a2,D.str a3,D.sl a4])) (szL [D.int a5,D.int a6,D.str a7,D.sl a8]))) b9 c9 (Bd.sub (Bd.sub (Bd.sub hb _) _) _);skip
 simp only [e9,B8,nth,C9,D0,D.I,D.S,D.L,D.B];rw [sz_end _ (Bd.sub (Bd.sub (Bd.sub (Bd.sub hb _) _) _) _)];rw [sz_step _ (Bd.sub (Bd.sub (Bd.sub hb _) _) _)];rw [sub_sub (Bd.sub (Bd.sub hb _) _)];rw [sz_step _ (Bd.sub (Bd.sub hb _) _)];rw [sub_sub (Bd.sub hb _)];rw [sz_step _ (Bd.sub hb _)];rw [sub_sub hb];exact sub_congr (by simp only [szL,D.sz] <;> omega)
theorem c13 {rs:Rows} (hz:rs.length+szR rs<=1048576) (hW:WRs H rs L9):rn ⟨13,0,0⟩ [.sl rs]=some (0,[.sl rs]):=by
 show rn ⟨13,0,0⟩ _=_
 rw [e13_0_0];have hf:=fill_loop (F:=fun i y=>rn ⟨13,0,1⟩ [.sl rs,.int (i:Int),.sl y]) (rows:=rs) (w:=1) (z:=[.str (⟨#[]⟩:ByteArray)]) rfl (fun r hr=>(WRs_mem hW hr).len) (fun i hi y hy hyw=>?_) (fun y=>?_)
 · simp only [F2] at hf
   rw [H7 (by omega:(0:Int)<=(rs.length:Int)),H7 (by unfold M63; omega:(rs.length:Int)<=(M63:Int)),H7 rfl]
   simp only [Q4,H1,D4];rw [hf];rfl
 · have hw:=WRs_mem hW (C1 hi)
   have hzi:=szR_mem (C1 hi);obtain ⟨a0,hr,b0⟩:=wl9 hw;rw [hr] at hw hzi;skip
   rw [e13_0_1];have hlen:rs.length<=maxLen:=by unfold maxLen; omega
   have hi2:i<y.length:=by omega
   have hov:∀ l:List D,l.length=1->over 0 l (rowAt y i)=l:=fun l hl=>over0_eq (by rw [rowAt_eq hi2,hyw _ (C1 hi2),hl])
   simp only [D4,rowAt_eq hi,hr,inbN,hi,hi2,H3,H1,E3,nth,C9,D0,D.I,D.S,D.L,D.B,wrap_succ hi hlen];rw [hov _ rfl]
 · skip
   rw [e13_0_1];simp
theorem c24 {rs:Rows} (hz:rs.length+szR rs<=1048576) (hW:WRs H rs L25) {N:Nat} (hN:∀ r∈rs,SizeOf.sizeOf r<N) (hel:∀ (a0:Int) (a1:Int) (a2:ByteArray) (a3:Rows),SizeOf.sizeOf ([D.int a0,D.int a1,D.str a2,D.sl a3]:List D)<N->szL [D.int a0,D.int a1,D.str a2,D.sl a3]<=1048576->WL H [D.int a0,D.int a1,D.str a2,D.sl a3] L25->rn ⟨14,0,0⟩ [D.int a0,D.int a1,D.str a2,D.sl a3]=some (0,[D.int a0,D.int a1,D.str a2,D.sl a3])):rn ⟨24,0,0⟩ [.sl rs]=some (0,[.sl rs]):=by
 show rn ⟨24,0,0⟩ _=_
 rw [e24_0_0];have hf:=fill_loop (F:=fun i y=>rn ⟨24,0,1⟩ [.sl rs,.int (i:Int),.sl y]) (rows:=rs) (w:=4) (z:=[.int 0,.int 0,.str (⟨#[]⟩:ByteArray),.sl []]) rfl (fun r hr=>(WRs_mem hW hr).len) (fun i hi y hy hyw=>?_) (fun y=>?_)
 · simp only [F2] at hf
   rw [H7 (by omega:(0:Int)<=(rs.length:Int)),H7 (by unfold M63; omega:(rs.length:Int)<=(M63:Int)),H7 rfl]
   simp only [Q4,H1,D4];rw [hf];rfl
 · have hw:=WRs_mem hW (C1 hi)
   have hzi:=szR_mem (C1 hi);obtain ⟨a0,a1,a2,a3,hr,b2,b3,c3⟩:=wl25 hw;have hNi:=hN _ (C1 hi);rw [hr] at hw hzi hNi;have hc:=hel a0 a1 a2 a3 hNi (by omega) hw
   skip
   skip
   rw [e24_0_1];have hlen:rs.length<=maxLen:=by unfold maxLen; omega
   have hi2:i<y.length:=by omega
   have hov:∀ l:List D,l.length=4->over 0 l (rowAt y i)=l:=fun l hl=>over0_eq (by rw [rowAt_eq hi2,hyw _ (C1 hi2),hl])
   simp only [D4,rowAt_eq hi,hr,inbN,hi,hi2,H3,H1,E3,nth,C9,D0,D.I,D.S,D.L,D.B,wrap_succ hi hlen];simp only [hc,B8,nth,C9,D0,D.I,D.S,D.L,D.B];rw [hov _ rfl]
 · skip
   rw [e24_0_1];simp
theorem c14:∀ (N:Nat) (a0:Int) (a1:Int) (a2:ByteArray) (a3:Rows),SizeOf.sizeOf ([D.int a0,D.int a1,D.str a2,D.sl a3]:List D)<N->szL [D.int a0,D.int a1,D.str a2,D.sl a3]<=1048576->WL H [D.int a0,D.int a1,D.str a2,D.sl a3] L25->rn ⟨14,0,0⟩ [D.int a0,D.int a1,D.str a2,D.sl a3]=some (0,[D.int a0,D.int a1,D.str a2,D.sl a3])
 | 0,a0,a1,a2,a3,hN,_,_=>absurd hN (Nat.not_lt_zero _)
 | N+1,a0,a1,a2,a3,hN,hz,h=>by
  obtain ⟨x0,x1,x2,x3,hh,bx2,bx3,cx3⟩:=wl25 h;simp only [J3.injEq,D.int.injEq,D.bool.injEq,D.str.injEq,D.sl.injEq,and_true] at hh;obtain ⟨rfl,rfl,rfl,rfl⟩:=hh;show rn ⟨14,0,0⟩ _=_
  rw [e14_0_0];simp only [szL,D.sz] at hz;have e3:rn ⟨24,0,0⟩ [.sl a3]=some (0,[.sl a3]):=c24 (by omega) cx3 (N:=N) (fun r hr=>by have h1:=size_row hr; simp only [J3.sizeOf_spec,D.sl.sizeOf_spec] at hN; omega) (c14 N)
  skip
  all_goals simp only [e3,B8,nth,C9,D0,D.I,D.S,D.L,D.B]
theorem c25 {a0:Int} {a1:Int} {a2:Int} {a3:ByteArray} {a4:Rows} {a5:Int} {a6:Int} {a7:ByteArray} {a8:Rows} (hz:szL [D.int a0,D.int a1,D.int a2,D.str a3,D.sl a4,D.int a5,D.int a6,D.str a7,D.sl a8]<=1048576) (h:WL H [D.int a0,D.int a1,D.int a2,D.str a3,D.sl a4,D.int a5,D.int a6,D.str a7,D.sl a8] L56):rn ⟨25,0,0⟩ [D.int a0,D.int a1,D.int a2,D.str a3,D.sl a4,D.int a5,D.int a6,D.str a7,D.sl a8]=some (0,[D.int a0,D.int a1,D.int a2,D.str a3,D.int a5,D.int a6,D.str a7,D.sl a4,D.sl a8]):=by
 obtain ⟨x0,x1,x2,x3,x4,x5,x6,x7,x8,hh,bx3,bx4,cx4,bx7,bx8,cx8⟩:=wl56 h;simp only [J3.injEq,D.int.injEq,D.bool.injEq,D.str.injEq,D.sl.injEq,and_true] at hh;obtain ⟨rfl,rfl,rfl,rfl,rfl,rfl,rfl,rfl,rfl⟩:=hh;show rn ⟨25,0,0⟩ _=_
 rw [e25_0_0];simp only [szL,D.sz] at hz;have w1:WL H [D.int a1,D.int a2,D.str a3,D.sl a4] L25:=WL.part 1 4 h;have e1:=c14 _ a1 a2 a3 a4 (F6 _) (by simp only [szL,D.sz]; omega) w1
 skip
 have w5:WL H [D.int a5,D.int a6,D.str a7,D.sl a8] L25:=WL.part 5 4 h;have e5:=c14 _ a5 a6 a7 a8 (F6 _) (by simp only [szL,D.sz]; omega) w5
 skip
 all_goals simp only [e1,e5,B8,nth,C9,D0,D.I,D.S,D.L,D.B]
theorem c15 {rs:Rows} (hz:rs.length+szR rs<=1048576) (hW:WRs H rs L56):rn ⟨15,0,0⟩ [.sl rs]=some (0,[.sl rs]):=by
 show rn ⟨15,0,0⟩ _=_
 rw [e15_0_0];have hf:=fill_loop (F:=fun i y=>rn ⟨15,0,1⟩ [.sl rs,.int (i:Int),.sl y]) (rows:=rs) (w:=9) (z:=[.int 0,.int 0,.int 0,.str (⟨#[]⟩:ByteArray),.sl [],.int 0,.int 0,.str (⟨#[]⟩:ByteArray),.sl []]) rfl (fun r hr=>(WRs_mem hW hr).len) (fun i hi y hy hyw=>?_) (fun y=>?_)
 · simp only [F2] at hf
   rw [H7 (by omega:(0:Int)<=(rs.length:Int)),H7 (by unfold M63; omega:(rs.length:Int)<=(M63:Int)),H7 rfl]
   simp only [Q4,H1,D4];rw [hf];rfl
 · have hw:=WRs_mem hW (C1 hi)
   have hzi:=szR_mem (C1 hi);obtain ⟨a0,a1,a2,a3,a4,a5,a6,a7,a8,hr,b3,b4,c4,b7,b8,c8⟩:=wl56 hw;rw [hr] at hw hzi;have hc:=c25 (by omega) hw
   skip
   skip
   rw [e15_0_1];have hlen:rs.length<=maxLen:=by unfold maxLen; omega
   have hi2:i<y.length:=by omega
   have hov:∀ l:List D,l.length=9->over 0 l (rowAt y i)=l:=fun l hl=>over0_eq (by rw [rowAt_eq hi2,hyw _ (C1 hi2),hl])
   simp only [D4,rowAt_eq hi,hr,inbN,hi,hi2,H3,H1,E3,nth,C9,D0,D.I,D.S,D.L,D.B,wrap_succ hi hlen];simp only [hc,B8,nth,C9,D0,D.I,D.S,D.L,D.B];rw [hov _ rfl]
 · skip
   rw [e15_0_1];simp
theorem c6 {a0:Rows} {a1:Int} {a2:Int} {a3:ByteArray} {a4:Rows} {a5:Int} {a6:Int} {a7:ByteArray} {a8:Rows} {a9:Rows} (hz:szL [D.sl a0,D.int a1,D.int a2,D.str a3,D.sl a4,D.int a5,D.int a6,D.str a7,D.sl a8,D.sl a9]<=1048576) (h:WL H [D.sl a0,D.int a1,D.int a2,D.str a3,D.sl a4,D.int a5,D.int a6,D.str a7,D.sl a8,D.sl a9] L28):rn ⟨6,0,0⟩ [D.sl a0,D.int a1,D.int a2,D.str a3,D.sl a4,D.int a5,D.int a6,D.str a7,D.sl a8,D.sl a9]=some (0,[D.int a1,D.int a2,D.str a3,D.int a5,D.int a6,D.str a7,D.sl a0,D.sl a4,D.sl a8,D.sl a9]):=by
 obtain ⟨x0,x1,x2,x3,x4,x5,x6,x7,x8,x9,hh,bx0,cx0,bx3,bx4,cx4,bx7,bx8,cx8,bx9,cx9⟩:=wl28 h;simp only [J3.injEq,D.int.injEq,D.bool.injEq,D.str.injEq,D.sl.injEq,and_true] at hh;obtain ⟨rfl,rfl,rfl,rfl,rfl,rfl,rfl,rfl,rfl,rfl⟩:=hh;show rn ⟨6,0,0⟩ _=_
 rw [e6_0_0];simp only [szL,D.sz] at hz;have e0:=c13 (rs:=a0) (by omega) cx0
 skip
 have w1:WL H [D.int a1,D.int a2,D.str a3,D.sl a4] L25:=WL.part 1 4 h;have e1:=c14 _ a1 a2 a3 a4 (F6 _) (by simp only [szL,D.sz]; omega) w1
 skip
 have w5:WL H [D.int a5,D.int a6,D.str a7,D.sl a8] L25:=WL.part 5 4 h;have e5:=c14 _ a5 a6 a7 a8 (F6 _) (by simp only [szL,D.sz]; omega) w5
 skip
 have e9:=c15 (rs:=a9) (by omega) cx9
 skip
 all_goals simp only [e0,e1,e5,e9,B8,nth,C9,D0,D.I,D.S,D.L,D.B]
end Go.Q.S
end
section
namespace Go.Q.S
open Go Go.Q Go.Proofs
theorem r50 (t:Tm):rn ⟨50,0,0⟩ [.int t.k,.int t.n,.str t.s,.sl (t.as.map Tm.row)]=some (0,[.bool (isW t)]):=by
 show rn _ _=_
 rw [e50_0_0];simp only [D2];unfold isW;have e:decide ((t.as.length:Int)=0)=decide (t.as.length=0):=by simp
 rw [e];cases decide (t.k=3) <;> cases decide (0<=t.n) <;> cases decide (t.n<4) <;> cases decide (t.s=⟨#[]⟩) <;> cases decide (t.as.length=0) <;> rfl
theorem r41 (a b c:Int):rn ⟨41,0,0⟩ [.int a,.int b,.int c]=some (0,[.bool (decide (b<=a)&&decide (a<=c))]):=by
 show rn _ _=_
 rw [e41_0_0];cases decide (b<=a) <;> rfl
end Go.Q.S
end
section
namespace Go.Q.S
open Go Go.Q Go.Proofs
theorem qlt (a c:Nat):decide ((c:Int)<(a:Int))=!decide (a<=c):=by by_cases h:a<=c <;> simp [h] <;> omega
theorem qle (a c:Nat):decide ((c:Int)<=(a:Int))=decide (c<=a):=by by_cases h:c<=a <;> simp [h] <;> omega
theorem maxB {n:Nat} (h:n<=1099511627776):n<=maxLen:=by unfold maxLen; omega
theorem nb {n m:Nat} (h:n+m<=274877906944):K4 (n+m) M63=true:=P6 h
theorem r62 (c:Nat):rn ⟨62,0,0⟩ [.int (c:Int)]=some (0,[.bool (decide (97<=c)&&decide (c<=122))]):=by
 rw [e62_0_0,show decide ((97:Int)<=(c:Int))=decide (97<=c) from qle c 97,show decide ((c:Int)<=122)=decide (c<=122) from qle 122 c]
 cases decide (97<=c) <;> rfl
theorem r66 (c:Nat):rn ⟨66,0,0⟩ [.int (c:Int)]=some (0,[.bool (decide (48<=c)&&decide (c<=57))]):=by
 rw [e66_0_0,show decide ((48:Int)<=(c:Int))=decide (48<=c) from qle c 48,show decide ((c:Int)<=57)=decide (c<=57) from qle 57 c]
 cases decide (48<=c) <;> rfl
theorem rIn (a b c:Int):rn ⟨41,0,0⟩ [.int a,.int b,.int c]=some (0,[.bool (decide (b<=a)&&decide (a<=c))]):=r41 a b c
theorem r56 (s:ByteArray) (hs:s.size<=maxLen) (lo hi:Nat):rn ⟨56,0,0⟩ [.str s,.int (lo:Int),.int (hi:Int)]=some (0,[.bool (nameK lo hi s.data.toList)]):=by
 have hz:=size_list s;have hl:∀ n i,i+n=s.data.toList.length->rn ⟨56,0,1⟩ [.str s,.int (i:Int)]=bif (s.data.toList.drop i).all lowB then some (0,[]) else some (1,[]):=by
  intro n;induction n with
  | zero =>
   intro i hi;obtain rfl:i=s.data.toList.length:=by omega
   rw [e56_0_1];simp only [hz,D2,E3,G7,H4,H2,G8,List.all_nil,H1]
  | succ n ih =>
   intro i hi;have hlt:i<s.data.toList.length:=by omega
   rw [e56_0_1,E1 hlt];simp only [hz,E3,hlt,H3,H1,inbN,D4,wrap_succ hlt (by omega),get_list hlt,P2,ih (i+1) (by omega),lowB]
   generalize s.data.toList[i].toNat=c;rw [show decide ((c:Int)<97)=!decide (97<=c) from qlt 97 c,show decide ((c:Int)<48)=!decide (48<=c) from qlt 48 c,show decide ((57:Int)<(c:Int))=!decide (c<=57) from qlt c 57,show decide ((122:Int)<(c:Int))=!decide (c<=122) from qlt c 122]
   cases decide (97<=c) <;> cases decide (c<=122) <;> cases decide (48<=c) <;> cases decide (c<=57) <;> simp
 have h1:=hl (s.data.toList.length-1) 1;rw [e56_0_0];have hg:∀ h:0<s.data.toList.length,s.get! 0=s.data.toList[0]:=fun h=>get_list h
 rw [hz] at hs;rw [hz];generalize s.data.toList=l at hs hz hl h1 hg ⊢;cases l with
 | nil=>rfl
 | cons b r =>
  have e0:=hg (by simp)
  have e1:=h1 (by simp; omega)
  simp only [N6,J1] at e1;rw [show ((1:Nat):Int)=1 from rfl] at e1
  have hn:¬(((b::r).length:Nat):Int)<1:=by simp only [F1]; omega
  have hi0:inb 0 (b::r).length=true:=by simp [inb]
  rw [show decide ((8:Int)<(((b::r).length:Nat):Int))=!decide ((b::r).length<=8) from qlt _ 8]
  simp only [H8 hn,H2,hi0,H1,show Int.toNat 0=0 from rfl,e0,P4,e1,nameK]
  rw [qlt lo b.toNat,qlt b.toNat hi];cases decide ((b::r).length<=8) <;> cases decide (lo<=b.toNat) <;> cases decide (b.toNat<=hi) <;> cases r.all lowB <;> first | rfl | (simp; done) | (simp; rfl)
theorem r51 (s:ByteArray) (hs:s.size<=maxLen):rn ⟨51,0,0⟩ [.str s]=some (0,[.bool (isNm s)]):=by
 have h:=r56 s hs 97 122;rw [e51_0_0];simp only [show ((97:Nat):Int)=97 from rfl,show ((122:Nat):Int)=122 from rfl] at h
 simp only [h,nv0,nvS,dvI,dvB,dvS,dvL,B8]; rfl
theorem r49 (s:ByteArray) (hs:s.size<=maxLen):rn ⟨49,0,0⟩ [.str s]=some (0,[.bool (isVr s)]):=by
 have h:=r56 s hs 65 90;rw [e49_0_0];simp only [show ((65:Nat):Int)=65 from rfl,show ((90:Nat):Int)=90 from rfl] at h
 simp only [h,nv0,nvS,dvI,dvB,dvS,dvL,B8]; rfl
theorem r61 (s:ByteArray) (hs:s.size<=maxLen):rn ⟨61,0,0⟩ [.str s]=some (0,[.bool ((s.data.toList.drop 1).all lowB&&(decide (1<=s.data.toList.length)&&decide (s.data.toList.length<=8)))]):=by
 have hz:=size_list s;have hl:∀ n i,i+n=s.data.toList.length->rn ⟨61,0,1⟩ [.str s,.int (i:Int)]=bif (s.data.toList.drop i).all lowB then some (0,[.str s]) else some (1,[]):=by
  intro n;induction n with
  | zero =>
   intro i hi;obtain rfl:i=s.data.toList.length:=by omega
   rw [e61_0_1];simp only [hz,D2,E3,G7,H4,H2,G8,List.all_nil,H1]
  | succ n ih =>
   intro i hi;have hlt:i<s.data.toList.length:=by omega
   rw [e61_0_1,E1 hlt];simp only [hz,E3,hlt,H3,H1,inbN,D4,wrap_succ hlt (by omega),get_list hlt,P2,ih (i+1) (by omega),lowB,r62,r66,nv0,nvS,dvI,dvB,dvS,dvL,B8]
   generalize s.data.toList[i].toNat=c;cases decide (97<=c) <;> cases decide (c<=122) <;> cases decide (48<=c) <;> cases decide (c<=57) <;> simp
 rw [e61_0_0];have hlen:decide ((1:Int)<=(s.data.toList.length:Int))=decide (1<=s.data.toList.length):=qle s.data.toList.length 1;have hlen8:decide ((s.data.toList.length:Int)<=8)=decide (s.data.toList.length<=8):=qle 8 s.data.toList.length;by_cases h0:s.data.toList.length=0
 · have e:rn ⟨61,0,1⟩ [.str s,.int 1]=some (0,[.str s]):=by
    rw [e61_0_1];rw [H8 (show ¬(1:Int)<(s.size:Int) by rw [hz]; omega)]; rfl
   simp only [e,nv0,nvS,dvI,dvB,dvS,dvL,B8,K5,H1,H2,rIn,hz,hlen,hlen8];have:s.data.toList=[]:=D5.1 h0;rw [this]; rfl
 · have h1:=hl (s.data.toList.length-1) 1 (by omega)
   rw [show ((1:Nat):Int)=1 from rfl] at h1
   rw [h1];cases (s.data.toList.drop 1).all lowB with
   | true=>simp only [nv0,nvS,dvI,dvB,dvS,dvL,B8,K5,H1,H2,rIn,hz,hlen,hlen8,Bool.true_and]
   | false=>rfl
theorem r55 (s:ByteArray) (hs:s.size<=maxLen):rn ⟨55,0,0⟩ [.str s]=some (0,[.bool (isNm s)]):=by
 have hr:=r61 s hs;have hz:=size_list s;rw [e55_0_0];have he:decide (s=(⟨#[]⟩:ByteArray))=decide (s.data.toList=[]):=decide_eq_decide.2 (nil_list s);have hg:∀ h:0<s.data.toList.length,s.get! 0=s.data.toList[0]:=fun h=>get_list h
 rw [he,hz];unfold isNm;generalize s.data.toList=l at hr hz hg ⊢;cases l with
 | nil=>rfl
 | cons b r =>
  have e0:=hg (by simp)
  have hi0:inb 0 (r.length+1)=true:=by simp [inb]
  simp only [show Int.toNat 0=0 from rfl,e0,P4,F1,hi0,H1,H8 (List.cons_ne_nil b r),O2,r62,nv0,nvS,dvI,dvB,dvS,dvL,B8,hr,nameK,N6,J1,F1]
  have:decide (1<=r.length+1)=true:=by simp
  rw [this];cases decide (97<=b.toNat) <;> cases decide (b.toNat<=122) <;> cases r.all lowB <;> cases decide (r.length+1<=8) <;> rfl
theorem r54 (s:ByteArray) (hs:s.size<=maxLen):rn ⟨54,0,0⟩ [.str s]=some (0,[.bool (isVr s)]):=by
 have hr:=r61 s hs;have hz:=size_list s;rw [e54_0_0];have he:decide (s=(⟨#[]⟩:ByteArray))=decide (s.data.toList=[]):=decide_eq_decide.2 (nil_list s);have hg:∀ h:0<s.data.toList.length,s.get! 0=s.data.toList[0]:=fun h=>get_list h
 rw [he,hz];unfold isVr;generalize s.data.toList=l at hr hz hg ⊢;cases l with
 | nil=>rfl
 | cons b r =>
  have e0:=hg (by simp)
  have hi0:inb 0 (r.length+1)=true:=by simp [inb]
  simp only [show Int.toNat 0=0 from rfl,e0,P4,F1,hi0,H1,H8 (List.cons_ne_nil b r),O2,nv0,nvS,dvI,dvB,dvS,dvL,B8,hr,nameK,N6,J1,F1]
  have:decide (1<=r.length+1)=true:=by simp
  rw [this,show decide ((65:Int)<=(b.toNat:Int))=decide (65<=b.toNat) from qle b.toNat 65,show decide ((b.toNat:Int)<=90)=decide (b.toNat<=90) from qle 90 b.toNat]
  cases decide (65<=b.toNat) <;> cases decide (b.toNat<=90) <;> cases r.all lowB <;> cases decide (r.length+1<=8) <;> rfl
theorem r42:∀ t:Tm,t.nodes<=2097152->rn ⟨42,0,0⟩ [.int t.k,.int t.n,.str t.s,.sl (t.as.map Tm.row)]=some (0,[.int (t.nodes:Int)]):=Tm.ind fun t ih h=>by
 have hnd:=Tm.nodes_eq t;have hls:=len_sum (xs:=t.as);have hl:∀ n i (c:Nat),i+n=t.as.length->c+((t.as.drop i).map Tm.nodes).sum<=2097152->rn ⟨42,0,1⟩ [.int (c:Int),.sl (t.as.map Tm.row),.int (t.as.length:Int),.int (i:Int)]=some (0,[.int ((c+((t.as.drop i).map Tm.nodes).sum:Nat):Int)]):=by
  intro n;induction n with
  | zero =>
   intro i c hi hc;obtain rfl:i=t.as.length:=by omega
   rw [e42_0_1];simp only [D2,E3,G7,H4,H2,G8,N4,List.sum_nil,Nat.add_zero]
  | succ n ih2 =>
   intro i c hi hc;have hlt:i<t.as.length:=by omega
   rw [E1 hlt] at hc ⊢;simp only [B9,F7] at hc ⊢;rw [e42_0_1];have h1:=ih _ (C1 hlt) (by omega)
   simp only [D2,E3,hlt,H3,H1,inbN,D4,rowAt_map hlt,wrap_succ hlt (maxB (by omega)),Tm.row_eq,nv0,nvS,dvI,dvB,dvS,dvL,B8,h1]
   rw [IntWalk.i64_in _ (by omega),show ((c:Int)+(t.as[i].nodes:Int))=((c+t.as[i].nodes:Nat):Int) by omega,ih2 (i+1) _ (by omega) (by omega),Nat.add_assoc]
 rw [e42_0_0];have:=hl t.as.length 0 1 (by omega) (by rw [J1]; omega)
 rw [J1,<- hnd] at this;simp only [D2,show ((1:Nat):Int)=1 from rfl,F2] at this ⊢
 simp only [this,nv0,nvS,dvI,dvB,dvS,dvL,B8,K5,H1,H2]
theorem dstep (a b:Nat):(bif decide (b<a) then (a:Int) else (b:Int))=((max b a:Nat):Int):=by
 by_cases h:b<a
 · rw [H7 h,H1]; omega
 · rw [H8 h,H2]; omega
theorem r43:∀ t:Tm,t.nodes<=2097152->rn ⟨43,0,0⟩ [.int t.k,.int t.n,.str t.s,.sl (t.as.map Tm.row)]=some (0,[.int (t.depth:Int)]):=Tm.ind fun t ih h=>by
 have hnd:=Tm.nodes_eq t;have hls:=len_sum (xs:=t.as);have hdn:=Tm.depth_nodes t;have hde:=Tm.depth_eq t;have hl:∀ n i (c:Nat),i+n=t.as.length->rn ⟨43,0,1⟩ [.int (c:Int),.sl (t.as.map Tm.row),.int (t.as.length:Int),.int (i:Int)]=some (0,[.int ((max c (Tm.depthL (t.as.drop i)):Nat):Int)]):=by
  intro n;induction n with
  | zero =>
   intro i c hi;obtain rfl:i=t.as.length:=by omega
   rw [e43_0_1];simp only [D2,E3,G7,H4,H2,G8,Tm.depthL,Nat.max_zero]
  | succ n ih2 =>
   intro i c hi;have hlt:i<t.as.length:=by omega
   rw [E1 hlt];have hm:=mem_sum (f:=Tm.nodes) (C1 hlt);have h1:=ih _ (C1 hlt) (by omega)
   rw [e43_0_1];simp only [D2,E3,hlt,H3,H1,inbN,D4,rowAt_map hlt,wrap_succ hlt (maxB (by omega)),Tm.row_eq,nv0,nvS,dvI,dvB,dvS,dvL,B8,h1]
   rw [dstep,ih2 (i+1) _ (by omega)]
   simp only [Tm.depthL,Nat.max_assoc]
 rw [e43_0_0];have:=hl t.as.length 0 0 (by omega)
 rw [J1,Nat.zero_max] at this;simp only [D2,F2] at this ⊢;simp only [this,nv0,nvS,dvI,dvB,dvS,dvL,B8,K5,H1,H2];rw [IntWalk.i64_in _ (by omega),hde]; rfl
theorem r47 (a b:Nat):rn ⟨47,0,0⟩ [.int (a:Int),.int (b:Int)]=some (0,[.int ((max a b:Nat):Int)]):=by
 rw [e47_0_0];by_cases h:(b:Int)<(a:Int)
 · rw [H7 h,H1,show max a b=a by omega]
 · rw [H8 h,H2,show max a b=b by omega]
theorem r38:∀ t:Tm,t.nodes<=2097152->rn ⟨38,0,0⟩ [.int t.k,.int t.n,.str t.s,.sl (t.as.map Tm.row)]=some (0,[.int (t.depth:Int)]):=Tm.ind fun t ih h=>by
 have hnd:=Tm.nodes_eq t;have hls:=len_sum (xs:=t.as);have hdn:=Tm.depth_nodes t;have hde:=Tm.depth_eq t;have hl:∀ n i (c:Nat),i+n=t.as.length->rn ⟨38,0,1⟩ [.int (c:Int),.int (i:Int),.int t.k,.int t.n,.str t.s,.sl (t.as.map Tm.row)]=some (0,[.int ((max c (Tm.depthL (t.as.drop i)):Nat):Int)]):=by
  intro n;induction n with
  | zero =>
   intro i c hi;obtain rfl:i=t.as.length:=by omega
   rw [e38_0_1];simp only [D2,E3,G7,H4,H2,G8,Tm.depthL,Nat.max_zero]
  | succ n ih2 =>
   intro i c hi;have hlt:i<t.as.length:=by omega
   rw [E1 hlt];have hm:=mem_sum (f:=Tm.nodes) (C1 hlt);have h1:=ih _ (C1 hlt) (by omega)
   rw [e38_0_1];simp only [D2,E3,hlt,H3,H1,inbN,D4,rowAt_map hlt,wrap_succ hlt (maxB (by omega)),Tm.row_eq,nv0,nvS,dvI,dvB,dvS,dvL,B8,h1,r47]
   have h2:=ih2 (i+1) (max c t.as[i].depth) (by omega)
   rw [h2];simp only [Tm.depthL,Nat.max_assoc]
 rw [e38_0_0];have:=hl t.as.length 0 0 (by omega)
 rw [J1,Nat.zero_max] at this;simp only [F2] at this ⊢;simp only [this,nv0,nvS,dvI,dvB,dvS,dvL,B8,K5,H1,H2];rw [IntWalk.i64_in _ (by omega),hde]; rfl
def leftI (n left:Nat):Int:=if n<=left then ((left-n:Nat):Int) else -1
theorem leftI_add {a b c:Nat} (h:a<=c):leftI b (c-a)=leftI (a+b) c:=by
 unfold leftI;by_cases hb:b<=c-a
 · rw [H5 hb,H5 (by omega),Nat.sub_sub]
 · rw [H6 hb,H6 (by omega)]
theorem r37:∀ t:Tm,∀ left:Nat,t.nodes<=2097152->left<=1048576->rn ⟨37,0,0⟩ [.int t.k,.int t.n,.str t.s,.sl (t.as.map Tm.row),.int (left:Int)]=some (0,[.int (leftI t.nodes left)]):=Tm.ind fun t ih left h hle=>by
 have hnd:=Tm.nodes_eq t;have hls:=len_sum (xs:=t.as);have hl:∀ n i (c:Nat),i+n=t.as.length->c<=1048576->rn ⟨37,0,1⟩ [.int (c:Int),.int (i:Int),.int t.k,.int t.n,.str t.s,.sl (t.as.map Tm.row)]=some (0,[.int (leftI ((t.as.drop i).map Tm.nodes).sum c)]):=by
  intro n;induction n with
  | zero =>
   intro i c hi hc;obtain rfl:i=t.as.length:=by omega
   rw [e37_0_1];simp only [D2,E3,G7,H4,H2,G8,N4,List.sum_nil,leftI,O9,if_true,Nat.sub_zero]
  | succ n ih2 =>
   intro i c hi hc;have hlt:i<t.as.length:=by omega
   rw [E1 hlt];rw [e37_0_1];have h1:=ih _ (C1 hlt) c (by have:=mem_sum (f:=Tm.nodes) (C1 hlt); omega) hc
   have hc0:(0:Int)<=(c:Int):=by omega
   simp only [D2,E3,hlt,H3,H1,inbN,D4,rowAt_map hlt,wrap_succ hlt (maxB (by omega)),Tm.row_eq,nv0,nvS,dvI,dvB,dvS,dvL,B8,h1,hc0]
   simp only [B9,F7];by_cases hq:t.as[i].nodes<=c
   · have e:leftI t.as[i].nodes c=((c-t.as[i].nodes:Nat):Int):=H5 hq
     rw [e,ih2 (i+1) _ (by omega) (by omega),leftI_add hq]
   · have e:leftI t.as[i].nodes c=-1:=H6 hq
     have e2:leftI (t.as[i].nodes+((t.as.drop (i+1)).map Tm.nodes).sum) c=-1:=H6 (by omega)
     rw [e,e2,e37_0_1];have hneg:¬(0:Int)<=-1:=by decide
     simp only [hneg,H4,H2];cases decide (((i+1:Nat):Int)<((t.as.map Tm.row).length:Int)) <;> rfl
 rw [e37_0_0,IntWalk.i64_in _ (by omega)]
 by_cases hz:left=0
 · subst hz
   have e:leftI t.nodes 0=-1:=H6 (by omega)
   have hneg:¬(0:Int)<=-1:=by decide
   have e2:rn ⟨37,0,1⟩ [.int (((0:Nat):Int)-1),.int 0,.int t.k,.int t.n,.str t.s,.sl (t.as.map Tm.row)]=some (0,[.int (-1)]):=by
    rw [e37_0_1];simp only [show (((0:Nat):Int)-1)=-1 from rfl,hneg,H4,H2]
    cases decide ((0:Int)<((t.as.map Tm.row).length:Int)) <;> rfl
   rw [e2,e]; rfl
 · have:=hl t.as.length 0 (left-1) (by omega) (by omega)
   rw [J1] at this;rw [show (left:Int)-1=((left-1:Nat):Int) by omega]
   simp only [F2] at this;simp only [this,nv0,nvS,dvI,dvB,dvS,dvL,B8,K5,H1,H2];rw [leftI_add (by omega),hnd]
end Go.Q.S
end
section
namespace Go.Q.S
open Go Go.Q Go.Proofs
theorem r44:∀ t:Tm,Wt t->rn ⟨44,0,0⟩ [.int t.k,.int t.n,.str t.s,.sl (t.as.map Tm.row)]=some (0,[.bool t.areN]):=Tm.ind fun t ih h=>by
 have hlm:=h.l;have hl:∀ n i,i+n=t.as.length->rn ⟨44,0,2⟩ [.sl (t.as.map Tm.row),.int (t.as.length:Int),.int (i:Int)]=bif Tm.areNL (t.as.drop i) then some (0,[]) else some (1,[]):=by
  intro n;induction n with
  | zero =>
   intro i hi;obtain rfl:i=t.as.length:=by omega
   rw [e44_0_2];simp only [D2,E3,G7,H4,H2,G8,Tm.areNL,H1]
  | succ n ih2 =>
   intro i hi;have hlt:i<t.as.length:=by omega
   rw [e44_0_2,E1 hlt];have h1:=ih _ (C1 hlt) (h.sub (C1 hlt));simp only [D2,E3,hlt,H3,H1,inbN,D4,rowAt_map hlt,wrap_succ hlt hlm,Tm.row_eq,nv0,nvS,dvI,dvB,dvS,dvL,B8,h1,ih2 (i+1) (by omega),Tm.areNL]
   cases t.as[i].areN <;> simp
 have h0:=hl t.as.length 0 (by omega)
 rw [J1] at h0;rw [e44_0_0,Tm.areN_eq];simp only [D2,F2] at h0 ⊢;simp only [h0,r49 t.s h.s,r50 t,r51 t.s h.s,nv0,nvS,dvI,dvB,dvS,dvL,B8];unfold Tm.nodeN;have hz:decide ((t.as.length:Int)=0)=decide (t.as.length=0):=by simp
 by_cases h1:t.k=1
 · rw [H7 h1,H5 h1,hz]
   by_cases h2:t.as.length=0
   · have:t.as=[]:=D5.1 h2
     rw [H7 h2,this];simp only [Tm.areNL,H1,N9,Bool.true_and];cases decide (t.n=0) <;> cases isVr t.s <;> rfl
   · rw [H8 h2]
     cases decide (t.n=0) <;> rfl
 · rw [H8 h1,H6 h1]
   by_cases h3:t.k=3
   · rw [H7 h3,H5 h3]
     cases hw:isW t with
     | false=>rfl
     | true =>
      have:t.as=[]:=by simp only [isW,B5,decide_eq_true_eq] at hw; exact D5.1 hw.2.2.2.2
      rw [this]; rfl
   · rw [H8 h3,H6 h3]
     by_cases h2:t.k=2
     · rw [H7 h2,H5 h2]
       cases decide (t.n=0) <;> cases isNm t.s <;> cases Tm.areNL t.as <;> rfl
     · rw [H8 h2,H6 h2]; rfl
theorem r48 (t:Tm) (h:Wt t):rn ⟨48,0,0⟩ [.int t.k,.int t.n,.str t.s,.sl (t.as.map Tm.row)]=some (0,[.bool t.nodeN]):=by
 rw [e48_0_0];have hz:decide ((t.as.length:Int)=0)=decide (t.as.length=0):=by simp
 simp only [D2,r54 t.s h.s,r55 t.s h.s,nv0,nvS,dvI,dvB,dvS,dvL,B8,rIn,hz];unfold Tm.nodeN;by_cases h1:t.k=1
 · rw [H7 h1,H5 h1]
   cases decide (t.n=0) <;> cases isVr t.s <;> cases decide (t.as.length=0) <;> rfl
 · rw [H8 h1,H6 h1]
   by_cases h2:t.k=2
   · rw [H7 h2,H6 (by omega),H5 h2]
     cases decide (t.n=0) <;> cases isNm t.s <;> rfl
   · rw [H8 h2]
     by_cases h3:t.k=3
     · rw [H7 h3,H5 h3]
       unfold isW;have e2:decide (t.n<=3)=decide (t.n<4):=decide_eq_decide.2 (by omega)
       rw [H7 h3,e2];cases decide (t.s=(⟨#[]⟩:ByteArray)) <;> cases decide (0<=t.n) <;> cases decide (t.n<4) <;> cases decide (t.as.length=0) <;> rfl
     · rw [H8 h3,H6 h3,H6 h2]; rfl
theorem r39:∀ t:Tm,Wt t->rn ⟨39,0,0⟩ [.int t.k,.int t.n,.str t.s,.sl (t.as.map Tm.row)]=some (0,[.bool t.areN]):=Tm.ind fun t ih h=>by
 have hlm:=h.l;have hl:∀ n i,i+n=t.as.length->rn ⟨39,0,1⟩ [.int (i:Int),.int t.k,.int t.n,.str t.s,.sl (t.as.map Tm.row)]=bif Tm.areNL (t.as.drop i) then some (0,[.int t.k,.int t.n,.str t.s,.sl (t.as.map Tm.row)]) else some (1,[]):=by
  intro n;induction n with
  | zero =>
   intro i hi;obtain rfl:i=t.as.length:=by omega
   rw [e39_0_1];simp only [D2,E3,G7,H4,H2,G8,Tm.areNL,H1]
  | succ n ih2 =>
   intro i hi;have hlt:i<t.as.length:=by omega
   rw [e39_0_1,E1 hlt];have h1:=ih _ (C1 hlt) (h.sub (C1 hlt));simp only [D2,E3,hlt,H3,H1,inbN,D4,rowAt_map hlt,wrap_succ hlt hlm,Tm.row_eq,nv0,nvS,dvI,dvB,dvS,dvL,B8,h1,ih2 (i+1) (by omega),Tm.areNL]
   cases t.as[i].areN <;> simp
 have h0:=hl t.as.length 0 (by omega)
 rw [J1] at h0;rw [e39_0_0,Tm.areN_eq];simp only [F2] at h0 ⊢;rw [h0];cases Tm.areNL t.as with
 | true=>simp only [H1,nv0,nvS,dvI,dvB,dvS,dvL,B8,K5,H1,H2,r48 t h,N9]
 | false=>rw [Bool.and_false]; rfl
theorem r33 (t:Tm) (hn:t.nodes<=2097152) (h:Wt t):rn ⟨33,0,0⟩ [.int t.k,.int t.n,.str t.s,.sl (t.as.map Tm.row)]=some (0,[.bool t.valid]):=by
 rw [e33_0_0];simp only [r42 t hn,r43 t hn,r44 t h,nv0,nvS,dvI,dvB,dvS,dvL,B8];unfold Tm.valid;have i1:((t.nodes:Int)<=60)↔t.nodes<=60:=by omega
 have i2:((t.depth:Int)<=16)↔t.depth<=16:=by omega
 by_cases h1:t.nodes<=60 <;> by_cases h2:t.depth<=16 <;> simp [h1,h2,i1,i2]
theorem r30 (t:Tm) (hn:t.nodes<=2097152) (h:Wt t):rn ⟨30,0,0⟩ [.int t.k,.int t.n,.str t.s,.sl (t.as.map Tm.row)]=some (0,[.bool t.valid]):=by
 rw [e30_0_0];have h1:=r37 t 60 hn (by omega)
 rw [show ((60:Nat):Int)=60 from rfl] at h1
 simp only [h1,r38 t hn,r39 t h,nv0,nvS,dvI,dvB,dvS,dvL,B8];have i0:((0:Int)<=leftI t.nodes 60)↔t.nodes<=60:=by
  unfold leftI;split <;> omega
 unfold Tm.valid;have i2:((t.depth:Int)<=16)↔t.depth<=16:=by omega
 by_cases h1:t.nodes<=60 <;> by_cases h2:t.depth<=16 <;> simp [h1,h2,i0,i2]
end Go.Q.S
end
section
namespace Go.Q.S
open Go Go.Q Go.Proofs
theorem rItoa (ls:List D):rn ⟨52,0,0⟩ ls=itoaS 0 ls:=by rw [rn_eq]; rfl
theorem r45 {n:Int} (h0:0<=n) (h1:n<100):rn ⟨45,0,0⟩ [.int n]=some (0,[.str (dgS n)]):=by
 rw [e45_0_0,rItoa];unfold itoaS;simp only [H7 h0,H7 h1,Q4,H1,nv0,nvS,dvI,dvB,dvS,dvL,B8,dgS]
theorem fi0:∀ (b:Bool) (s:ByteArray),rn ⟨40,0,1⟩ [.int 0,.bool b,.str s]=some (0,[.bool b,.str s]):=fun b s=>by
 rw [e40_0_1]; rfl
theorem fi1:rn ⟨40,0,1⟩ [.int 1,.bool false,.str ⟨#[]⟩]=some (0,[.bool false,.str ⟨#[49]⟩]):=by
 rw [e40_0_1];exact (by kernel_rfl:_=rn ⟨40,0,1⟩ [.int 0,.bool false,.str ⟨#[49]⟩]).trans (fi0 _ _)
theorem fi2:rn ⟨40,0,1⟩ [.int 2,.bool false,.str ⟨#[]⟩]=some (0,[.bool false,.str ⟨#[50]⟩]):=by
 rw [e40_0_1];exact (by kernel_rfl:_=rn ⟨40,0,1⟩ [.int 0,.bool false,.str ⟨#[50]⟩]).trans (fi0 _ _)
theorem fi3:rn ⟨40,0,1⟩ [.int 3,.bool false,.str ⟨#[]⟩]=some (0,[.bool false,.str ⟨#[51]⟩]):=by
 rw [e40_0_1];exact (by kernel_rfl:_=rn ⟨40,0,1⟩ [.int 0,.bool false,.str ⟨#[51]⟩]).trans (fi0 _ _)
theorem fiS {n:Int} (h0:0<=n) (h1:n<4):rn ⟨40,0,0⟩ [.int n]=some (0,[.str (dgS n)]):=by
 have e:∀ m:Nat,m<10->dgS (m:Int)=⟨#[UInt8.ofNat (48+m)]⟩:=fun m hm=>by
  unfold dgS; rw [D4,Lib.decDigits_one hm]
 have h:n=0\/n=1\/n=2\/n=3:=by omega
 rcases h with rfl | rfl | rfl | rfl
 · rw [e40_0_0]
   have:=e 0 (by decide)
   simp only [F2] at this;rw [this]; rfl
 · rw [e40_0_0]
   have:=e 1 (by decide)
   have h1:rn ⟨40,0,1⟩ [.int 1,.bool (decide ((1:Int)<0)),.str ⟨#[]⟩]=_:=fi1;simp only [Int.natCast_one] at this;rw [this,h1]; rfl
 · rw [e40_0_0]
   have:=e 2 (by decide)
   have h1:rn ⟨40,0,1⟩ [.int 2,.bool (decide ((2:Int)<0)),.str ⟨#[]⟩]=_:=fi2;have e2:dgS 2=_:=this;rw [e2,h1]; rfl
 · rw [e40_0_0]
   have:=e 3 (by decide)
   have h1:rn ⟨40,0,1⟩ [.int 3,.bool (decide ((3:Int)<0)),.str ⟨#[]⟩]=_:=fi3;have e2:dgS 3=_:=this;rw [e2,h1]; rfl
theorem lt63 {a:Nat} (h:a<=1099511627776):a<=i64max:=by unfold i64max; omega
theorem rJoin (ls:List D):rn ⟨53,0,0⟩ ls=joinG 0 ls:=by rw [rn_eq]; rfl
theorem r46 (l:List ByteArray) (hl:l.length<=1048576) (hs:(l.map fun y=>y.size+2).sum<=1048576):rn ⟨46,0,0⟩ [.sl (l.map sRow),.str cmB]=some (0,[.str ⟨(Lib.join (l.map fun y=>y.data.toList) cmB.data.toList).toArray⟩]):=by
 have h1:strL (l.map sRow)=some (l.map fun y=>y.data.toList):=by
  rw [sRow_map];exact strL_map (l.map toK)
 have h2:(Lib.join (l.map fun y=>y.data.toList) cmB.data.toList).length<=2097152:=by
  cases l with
  | nil=>exact O9 _
  | cons x r =>
   rw [B9,Lib.join_cons,G5];have h3:=tailB_join r ⟨#[]⟩;have h4:=tailB_size r ⟨#[]⟩;have h5:(tailB r ⟨#[]⟩).data.toList.length=(tailB r ⟨#[]⟩).size:=by rw [Array.length_toList]; rfl
   rw [h3] at h5;simp only [G5] at h5;have h6:(⟨#[]⟩:ByteArray).size=0:=rfl;have h7:x.data.toList.length=x.size:=by rw [Array.length_toList]; rfl
   simp only [B9,F7] at hs;omega
 rw [e46_0_0,rJoin];unfold joinG;simp only [h1];rw [P6 (by rw [D2]; omega),P6 (by omega)]
 rfl
theorem r34:∀ t:Tm,Small t->t.areN=true->t.nodes<=60->rn ⟨34,0,0⟩ [.int t.k,.int t.n,.str t.s,.sl (t.as.map Tm.row)]=some (0,[.str t.txt]):=Tm.ind fun t ih h hA hN=>by
 have hA':=hA;rw [Tm.areN_eq,B5,Tm.areNL_all] at hA;obtain ⟨hn,ha⟩:=hA;obtain ⟨n1,n2,n3⟩:=nodeN_s hn;have hnd:=Tm.nodes_eq t;have hls:=h.len;rw [e34_0_0,Tm.txt_eq];by_cases hk:t.k=3
 · obtain ⟨_,a,b⟩:=n2 hk
   simp only [H7 hk,H1,r45 a (by omega),nv0,nvS,dvI,dvB,dvS,dvL,B8,H5 hk]
 · rw [H6 hk,H8 hk]
   cases hl:t.as with
   | nil=>simp only [H2,N4,P5,F2,H3,H1,finB]
   | cons x0 xr =>
    rw [<- hl];have hpos:0<t.as.length:=by rw [hl]; simp
    have hf:=map_loop (F:=fun i acc=>rn ⟨34,0,1⟩ [.sl (t.as.map Tm.row),.int (t.as.length:Int),.int (i:Int),.int t.k,.int t.n,.str t.s,.sl (t.as.map Tm.row),.sl acc]) (xs:=t.as) (fun x=>sRow x.txt) (K:=fun acc=>some (0,[.int t.k,.int t.n,.str t.s,.sl (t.as.map Tm.row),.sl acc])) (fun i hi acc hac=>?_) (fun acc=>?_)
    · simp only [F2] at hf
      have htx:=txt_size t hA';rw [Tm.txt_eq,H6 hk] at htx;have e1:(t.as.map fun x=>sRow x.txt)=(t.as.map Tm.txt).map sRow:=by rw [List.map_map]; rfl
      have hsum:((t.as.map Tm.txt).map fun y=>y.size+2).sum<=960:=by
       rw [hl] at htx ⊢;simp only [B9,F7,finB,size_apB,tailB_size] at htx ⊢;omega
      have hj:=r46 (t.as.map Tm.txt) (by rw [D2]; omega) (by omega)
      have c1:decide (t.s.size+(⟨#[40]⟩:ByteArray).size<=i64max)=true:=H7 (lt63 (by show t.s.size+1<=_; omega))
      have hjs:∃ J:ByteArray,(⟨(Lib.join ((t.as.map Tm.txt).map fun y=>y.data.toList) cmB.data.toList).toArray⟩:ByteArray)=J/\finB t.s (t.as.map Tm.txt)=((t.s++opB)++J)++clB:=⟨_,rfl,by rw [hl,B9,finB_join]⟩
      obtain ⟨J,j1,j2⟩:=hjs;rw [j1] at hj;have hJ:t.s.size+1+J.size+1<=960:=by
       rw [j2] at htx;simp only [size_apB] at htx;have o1:opB.size=1:=rfl;have o2:clB.size=1:=rfl;omega
      have c2:decide ((t.s++(⟨#[40]⟩:ByteArray)).size+J.size<=i64max)=true:=H7 (lt63 (by rw [size_apB]; show t.s.size+1+J.size<=_; omega))
      have c3:decide (((t.s++(⟨#[40]⟩:ByteArray))++J).size+(⟨#[41]⟩:ByteArray).size<=i64max)=true:=H7 (lt63 (by rw [size_apB,size_apB]; show t.s.size+1+J.size+1<=_; omega))
      have hj':rn ⟨46,0,0⟩ [.sl ((t.as.map Tm.txt).map sRow),.str (⟨#[44,32]⟩:ByteArray)]=_:=hj;rw [j2];simp only [H2,D2,H8 (show ¬(t.as.length:Int)=0 by omega),hf,e1,nv0,nvS,dvI,dvB,dvS,dvL,B8,K5,H1,H2,c1,hj',c2,c3]
      rfl
    · have h1:=ih _ (C1 hi) (h.sub (C1 hi)) (C7.1 ha _ (C1 hi)) (by have:=mem_sum (f:=Tm.nodes) (C1 hi); omega)
      have hb2:K4 (acc.length+1) M63=true:=nb (by omega)
      rw [e34_0_1];simp only [D2,E3,hi,H3,H1,inbN,D4,rowAt_map hi,wrap_succ hi (maxB (by omega)),Tm.row_eq,nv0,nvS,dvI,dvB,dvS,dvL,B8,h1,F1,P5,K3,hb2]
      rfl
    · rw [e34_0_1]
      simp only [E3,G7,H4,H2]
theorem r31:∀ t:Tm,Small t->t.areN=true->t.nodes<=60->rn ⟨31,0,0⟩ [.int t.k,.int t.n,.str t.s,.sl (t.as.map Tm.row)]=some (0,[.str t.txt]):=Tm.ind fun t ih h hA hN=>by
 have hA':=hA;rw [Tm.areN_eq,B5,Tm.areNL_all] at hA;obtain ⟨hn,ha⟩:=hA;obtain ⟨n1,n2,n3⟩:=nodeN_s hn;have hnd:=Tm.nodes_eq t;have hls:=h.len;have htx:=txt_size t hA';rw [e31_0_0];rw [Tm.txt_eq] at htx ⊢;by_cases hk:t.k=3
 · obtain ⟨_,a,b⟩:=n2 hk
   simp only [H7 hk,H1,fiS a b,nv0,nvS,dvI,dvB,dvS,dvL,B8,H5 hk]
 · rw [H6 hk] at htx ⊢
   rw [H8 hk];have key:∀ n i (acc:ByteArray),i+n=t.as.length->0<i->acc.size+(((t.as.drop i).map Tm.txt).map fun y=>y.size+2).sum<=960->rn ⟨31,0,1⟩ [.str acc,.int (i:Int),.int t.k,.int t.n,.str t.s,.sl (t.as.map Tm.row)]=some (0,[.str (tailB ((t.as.drop i).map Tm.txt) acc),.int t.k,.int t.n,.str t.s,.sl (t.as.map Tm.row)]):=by
    intro n;induction n with
    | zero =>
     intro i acc hi h0 hz;obtain rfl:i=t.as.length:=by omega
     rw [e31_0_1];simp only [D2,E3,G7,H4,H2,G8,N4,tailB]
    | succ n ih2 =>
     intro i acc hi h0 hz;have hlt:i<t.as.length:=by omega
     rw [E1 hlt] at hz ⊢;simp only [B9,F7] at hz ⊢;have h1:=ih _ (C1 hlt) (h.sub (C1 hlt)) (C7.1 ha _ (C1 hlt)) (by have:=mem_sum (f:=Tm.nodes) (C1 hlt); omega)
     have h2:=ih2 (i+1) ((acc++cmB)++t.as[i].txt) (by omega) (by omega) (by rw [size_apB,size_apB]; have:cmB.size=2:=rfl; omega)
     have c1:decide (acc.size+(⟨#[44,32]⟩:ByteArray).size<=i64max)=true:=H7 (lt63 (by show acc.size+2<=_; omega))
     have c2:decide ((acc++(⟨#[44,32]⟩:ByteArray)).size+t.as[i].txt.size<=i64max)=true:=H7 (lt63 (by rw [size_apB]; show acc.size+2+_<=_; omega))
     rw [e31_0_1];simp only [D2,E3,hlt,H3,H1,inbN,D4,rowAt_map hlt,wrap_succ hlt (maxB (by omega)),Tm.row_eq,nv0,nvS,dvI,dvB,dvS,dvL,B8,H8 (show ¬(i:Int)=0 by omega),H2,c1,h1,c2]
     exact h2
   cases hl:t.as with
   | nil =>
    rw [hl] at key;have hz:rn ⟨31,0,1⟩ [.str t.s,.int 0,.int t.k,.int t.n,.str t.s,.sl []]=some (0,[.str t.s,.int t.k,.int t.n,.str t.s,.sl []]):=by
     rw [e31_0_1]; rfl
    simp only [H2,N4,hz,nv0,nvS,dvI,dvB,dvS,dvL,B8,K5,H1,H2,finB,P5];rfl
   | cons x0 xr =>
    have hlt:0<t.as.length:=by rw [hl]; simp
    have hx0:t.as[0]=x0:=by simp [hl]
    have hdr:t.as.drop 1=xr:=by rw [hl]; rfl
    have hsum:=htx;rw [hl] at hsum;simp only [B9,finB,size_apB,tailB_size] at hsum;have o1:opB.size=1:=rfl;have o2:clB.size=1:=rfl;have h1:=ih _ (C1 hlt) (h.sub (C1 hlt)) (C7.1 ha _ (C1 hlt)) (by have:=mem_sum (f:=Tm.nodes) (C1 hlt); omega)
    have h2:=key (t.as.length-1) 1 ((t.s++opB)++x0.txt) (by omega) (by omega) (by rw [hdr,size_apB,size_apB]; omega)
    rw [hdr] at h2;have c1:decide (t.s.size+(⟨#[40]⟩:ByteArray).size<=i64max)=true:=H7 (lt63 (by show t.s.size+1<=_; omega))
    have c2:decide ((t.s++(⟨#[40]⟩:ByteArray)).size+x0.txt.size<=i64max)=true:=H7 (lt63 (by rw [size_apB]; show t.s.size+1+_<=_; omega))
    have h0:rn ⟨31,0,1⟩ [.str t.s,.int 0,.int t.k,.int t.n,.str t.s,.sl (t.as.map Tm.row)]=some (0,[.str (tailB (xr.map Tm.txt) ((t.s++opB)++x0.txt)),.int t.k,.int t.n,.str t.s,.sl (t.as.map Tm.row)]):=by
     rw [e31_0_1];have r0:rowAt (t.as.map Tm.row) (Int.toNat 0)=x0.row:=by rw [hl]; rfl
     have i0:inb 0 t.as.length=true:=Bool.and_eq_true_iff.2 ⟨rfl,H7 (by omega)⟩
     have w0:IntKind.i64.wrap (0+1)=((1:Nat):Int):=rfl;rw [hx0] at h1;simp only [D2,H7 (show (0:Int)<(t.as.length:Int) by omega),H3,H1,r0,i0,w0,Tm.row_eq,nv0,nvS,dvI,dvB,dvS,dvL,B8,c1,h1,c2]
     exact h2
    rw [<- hl];have c3:decide ((tailB (xr.map Tm.txt) ((t.s++opB)++x0.txt)).size+(⟨#[41]⟩:ByteArray).size<=i64max)=true:=H7 (lt63 (by rw [tailB_size,size_apB,size_apB]; show _+1<=_; omega))
    simp only [H2,h0,nv0,nvS,dvI,dvB,dvS,dvL,B8,K5,H1,H2,D2,H7 (show (0:Int)<(t.as.length:Int) by omega),H1,c3]
    rw [hl,B9];rfl
theorem r26 (t:Tm) (hn:t.nodes<=2097152) (h:Wt t):rn ⟨26,0,0⟩ [.int t.k,.int t.n,.str t.s,.sl (t.as.map Tm.row)]=some (0,[.str (tF t)]):=by
 rw [e26_0_0,r33 t hn h];unfold tF;cases hv:t.valid with
 | false=>simp only [nv0,nvS,dvI,dvB,dvS,dvL,B8,O2,H1,K6,if_false]
 | true =>
  have hv':=hv;unfold Tm.valid at hv';simp only [B5,decide_eq_true_eq] at hv';simp only [nv0,nvS,dvI,dvB,dvS,dvL,B8,K9,H2,if_true,r34 t (small_of _ (by omega)) hv'.2.2 hv'.1]
theorem r22 (t:Tm) (hn:t.nodes<=2097152) (h:Wt t):rn ⟨22,0,0⟩ [.int t.k,.int t.n,.str t.s,.sl (t.as.map Tm.row)]=some (0,[.str (tF t)]):=by
 rw [e22_0_0,r30 t hn h];unfold tF;cases hv:t.valid with
 | false=>simp only [nv0,nvS,dvI,dvB,dvS,dvL,B8,O2,H1,K6,if_false]
 | true =>
  have hv':=hv;unfold Tm.valid at hv';simp only [B5,decide_eq_true_eq] at hv';simp only [nv0,nvS,dvI,dvB,dvS,dvL,B8,K9,H2,if_true,r31 t (small_of _ (by omega)) hv'.2.2 hv'.1]
theorem igk_ok (k:Int):rn ⟨35,0,0⟩ [.int k]=some (0,[.bool (decide (1<=k)&&decide (k<=3))]):=by
 rw [e35_0_0];cases decide (1<=k) <;> rfl
theorem sgB_size (k:Int):(sgB k).size<=4:=by unfold sgB; split; · decide
                                             · split <;> decide
theorem betw_ok {k:Int} (h0:1<=k) (h1:k<=3):rn ⟨36,0,0⟩ [.int k]=some (0,[.str (sgB k)]):=by
 have h:k=1\/k=2\/k=3:=by omega
 rcases h with rfl | rfl | rfl <;> rw [e36_0_0] <;> rfl
theorem r27 (g:Gu) (h:GuB g):rn ⟨27,0,0⟩ g.row=some (0,[.str (gF g)]):=by
 unfold Gu.row;have h1:=r33 g.l (F9 h.ln (by decide)) h.wl
 have h2:=r33 g.r (F9 h.rn (by decide)) h.wr
 have h3:=r26 g.l (F9 h.ln (by decide)) h.wl
 have h4:=r26 g.r (F9 h.rn (by decide)) h.wr
 have z1:=tF_size g.l;have z2:=tF_size g.r;have z3:=sgB_size g.k;rw [e27_0_0,igk_ok];unfold gF;cases hk:decide (1<=g.k)&&decide (g.k<=3) with
 | false=>simp only [nv0,nvS,dvI,dvB,dvS,dvL,B8,O2,H1,Bool.false_and,K6,if_false]
 | true =>
  simp only [B5,decide_eq_true_eq] at hk;simp only [nv0,nvS,dvI,dvB,dvS,dvL,B8,K9,H2,h1,h2,Bool.true_and];cases g.l.valid with
  | false=>simp only [O2,H1,Bool.false_and,K6,if_false]
  | true =>
   cases g.r.valid with
   | false=>simp only [K9,O2,H1,H2,Bool.and_false,K6,if_false]
   | true =>
    have c1:decide ((tF g.l).size+(sgB g.k).size<=i64max)=true:=H7 (lt63 (by omega))
    have c2:decide ((tF g.l++sgB g.k).size+(tF g.r).size<=i64max)=true:=H7 (lt63 (by rw [size_apB]; omega))
    simp only [K9,H2,h3,h4,betw_ok hk.1 hk.2,nv0,nvS,dvI,dvB,dvS,dvL,B8,c1,c2,H1,Q4,if_true]
theorem l1in_ok (a b c:Int):rn ⟨41,0,0⟩ [.int a,.int b,.int c]=some (0,[.bool (decide (b<=a)&&decide (a<=c))]):=by
 rw [e41_0_0];cases decide (b<=a) <;> rfl
theorem sign_ok (k:Int):rn ⟨32,0,0⟩ [.int k]=some (0,[.str (if decide (1<=k)&&decide (k<=3) then sgB k else ⟨#[]⟩)]):=by
 rw [e32_0_0,l1in_ok];cases hk:decide (1<=k)&&decide (k<=3) with
 | false=>rfl
 | true =>
  simp only [B5,decide_eq_true_eq] at hk;have h:k=1\/k=2\/k=3:=by omega
  rcases h with rfl | rfl | rfl <;> rfl
theorem sgB_ne (k:Int):sgB k≠⟨#[]⟩:=fun e=>by
 have e:=congrArg ByteArray.size e;revert e
 unfold sgB; split
 · decide
 · split <;> decide
theorem r23 (g:Gu) (h:GuB g):rn ⟨23,0,0⟩ g.row=some (0,[.str (gF g)]):=by
 unfold Gu.row;have h3:=r22 g.l (F9 h.ln (by decide)) h.wl
 have h4:=r22 g.r (F9 h.rn (by decide)) h.wr
 have h5:=sign_ok g.k;have z1:=tF_size g.l;have z2:=tF_size g.r;have z3:=sgB_size g.k;rw [e23_0_0];simp only [h3,h4,h5,nv0,nvS,dvI,dvB,dvS,dvL,B8];unfold gF;cases hl:g.l.valid with
 | false =>
  have e:tF g.l=⟨#[]⟩:=by unfold tF; rw [hl]; rfl
  simp only [H7 e,H1,Bool.false_and,Bool.and_false,K6,if_false]
 | true =>
  simp only [H8 (tF_ne hl),H2,Bool.true_and];cases hr:g.r.valid with
  | false =>
   have e:tF g.r=⟨#[]⟩:=by unfold tF; rw [hr]; rfl
   simp only [H7 e,H1,Bool.and_false,K6,if_false]
  | true =>
   simp only [H8 (tF_ne hr),H2,N9];cases hk:decide (1<=g.k)&&decide (g.k<=3) with
   | false=>simp only [K6,if_false,H3,H1]
   | true =>
    have c1:decide ((tF g.l).size+(sgB g.k).size<=i64max)=true:=H7 (lt63 (by omega))
    have c2:decide ((tF g.l++sgB g.k).size+(tF g.r).size<=i64max)=true:=H7 (lt63 (by rw [size_apB]; omega))
    simp only [if_true,H8 (sgB_ne g.k),H2,c1,c2,H1]
theorem r16 (l r:Tm) (wl:Wt l) (wr:Wt r) (ln:l.nodes<=2097152) (lr:r.nodes<=2097152) (gs:List Gu) (hl:gs.length<=1048576) (hg:∀ g∈gs,GuB g):rn ⟨16,0,0⟩ [.int l.k,.int l.n,.str l.s,.sl (l.as.map Tm.row),.int r.k,.int r.n,.str r.s,.sl (r.as.map Tm.row),.sl (gs.map Gu.row)]=some (0,[.str (sdF l r gs)]):=by
 have h1:=r26 l ln wl;have h2:=r26 r lr wr;have z1:=tF_size l;have z2:=tF_size r;have key:∀ n i (acc:ByteArray),i+n=gs.length->acc.size+2004*n<=4294967296->rn ⟨16,0,1⟩ [.str acc,.sl (gs.map Gu.row),.int (gs.length:Int),.int (i:Int)]=some (0,[.str (gsF (gs.drop i) (decide (i=0)) acc)]):=by
  intro n;induction n with
  | zero =>
   intro i acc hi hz;obtain rfl:i=gs.length:=by omega
   rw [e16_0_1];simp only [D2,E3,G7,H4,H2,G8,gsF]
  | succ n ih =>
   intro i acc hi hz;have hlt:i<gs.length:=by omega
   have h3:=r27 gs[i] (hg _ (C1 hlt));have z3:=gF_size gs[i];rw [E1 hlt];simp only [gsF];unfold Gu.row at h3;rw [e16_0_1];by_cases h0:i=0
   · have h4:=ih (i+1) ((acc++ifB)++gF gs[i]) (by omega) (by rw [size_apB,size_apB]; have:ifB.size=4:=rfl; omega)
     rw [H8 (show ¬ i+1=0 by omega)] at h4
     have c1:decide (acc.size+(⟨#[32,105,102,32]⟩:ByteArray).size<=i64max)=true:=H7 (lt63 (by show acc.size+4<=_; omega))
     have c2:decide ((acc++(⟨#[32,105,102,32]⟩:ByteArray)).size+(gF gs[i]).size<=i64max)=true:=H7 (lt63 (by rw [size_apB]; show acc.size+4+_<=_; omega))
     simp only [D2,E3,hlt,H3,H1,inbN,D4,rowAt_map hlt,wrap_succ hlt (maxB (by omega)),Gu.row,nv0,nvS,dvI,dvB,dvS,dvL,B8,H7 (show (i:Int)=0 by omega),H7 h0,H1,h3,c1,c2]
     exact h4
   · have h4:=ih (i+1) ((acc++amB)++gF gs[i]) (by omega) (by rw [size_apB,size_apB]; have:amB.size=3:=rfl; omega)
     rw [H8 (show ¬ i+1=0 by omega)] at h4
     have c1:decide (acc.size+(⟨#[32,38,32]⟩:ByteArray).size<=i64max)=true:=H7 (lt63 (by show acc.size+3<=_; omega))
     have c2:decide ((acc++(⟨#[32,38,32]⟩:ByteArray)).size+(gF gs[i]).size<=i64max)=true:=H7 (lt63 (by rw [size_apB]; show acc.size+3+_<=_; omega))
     simp only [D2,E3,hlt,H3,H1,inbN,D4,rowAt_map hlt,wrap_succ hlt (maxB (by omega)),Gu.row,nv0,nvS,dvI,dvB,dvS,dvL,B8,H8 (show ¬(i:Int)=0 by omega),H8 h0,H2,H1,h3,c1,c2]
     exact h4
 have h5:=key gs.length 0 ((tF l++arB)++tF r) (K3 _) (by rw [size_apB,size_apB]; have:arB.size=4:=rfl; omega)
 simp only [F2,J1,H3] at h5;have c1:decide ((tF l).size+(⟨#[32,61,62,32]⟩:ByteArray).size<=i64max)=true:=H7 (lt63 (by show (tF l).size+4<=_; omega))
 have c2:decide ((tF l++(⟨#[32,61,62,32]⟩:ByteArray)).size+(tF r).size<=i64max)=true:=H7 (lt63 (by rw [size_apB]; show (tF l).size+4+_<=_; omega))
 have h5':rn ⟨16,0,1⟩ [.str ((tF l++(⟨#[32,61,62,32]⟩:ByteArray))++tF r),.sl (gs.map Gu.row),.int (gs.length:Int),.int 0]=_:=h5;rw [e16_0_0];simp only [h1,h2,nv0,nvS,dvI,dvB,dvS,dvL,B8,c1,c2,H1,D2,h5',K5,H1,H2];rfl
def clB6:ByteArray:=⟨#[99,108,97,105,109,32]⟩
theorem r7 (vs:Rows) (l r:Tm) (wl:Wt l) (wr:Wt r) (ln:l.nodes<=2097152) (lr:r.nodes<=2097152) (gs:List Gu) (hl:gs.length<=1048576) (hg:∀ g∈gs,GuB g):rn ⟨7,0,0⟩ [.sl vs,.int l.k,.int l.n,.str l.s,.sl (l.as.map Tm.row),.int r.k,.int r.n,.str r.s,.sl (r.as.map Tm.row),.sl (gs.map Gu.row)]=some (0,[.str (clB6++sdF l r gs)]):=by
 have z:=sdF_size l r gs;have c1:decide ((⟨#[99,108,97,105,109,32]⟩:ByteArray).size+(sdF l r gs).size<=i64max)=true:=H7 (lt63 (by show 6+_<=_; omega))
 rw [e7_0_0,r16 l r wl wr ln lr gs hl hg];simp only [nv0,nvS,dvI,dvB,dvS,dvL,B8,c1,H1];rfl
def rlB:ByteArray:=(⟨#[114,117,108,101,32]⟩++⟨#[]⟩)++⟨#[58,32]⟩
theorem fruleS (l r:Tm) (wl:Wt l) (wr:Wt r) (ln:l.nodes<=2097152) (lr:r.nodes<=2097152) (gs:List Gu) (hl:gs.length<=1048576) (hg:∀ g∈gs,GuB g):rn ⟨12,0,0⟩ [.str ⟨#[]⟩,.int l.k,.int l.n,.str l.s,.sl (l.as.map Tm.row),.int r.k,.int r.n,.str r.s,.sl (r.as.map Tm.row),.sl (gs.map Gu.row)]=some (0,[.str (rlB++sdF l r gs)]):=by
 have h1:=r22 l ln wl;have h2:=r22 r lr wr;have z1:=tF_size l;have z2:=tF_size r;have key:∀ n i (acc:ByteArray),i+n=gs.length->acc.size+2004*n<=4294967296->rn ⟨12,0,1⟩ [.str acc,.int (i:Int),.str ⟨#[]⟩,.int l.k,.int l.n,.str l.s,.sl (l.as.map Tm.row),.int r.k,.int r.n,.str r.s,.sl (r.as.map Tm.row),.sl (gs.map Gu.row)]=some (0,[.str (gsF (gs.drop i) (decide (i=0)) acc)]):=by
  intro n;induction n with
  | zero =>
   intro i acc hi hz;obtain rfl:i=gs.length:=by omega
   rw [e12_0_1];simp only [D2,E3,G7,H4,H2,G8,gsF]
  | succ n ih =>
   intro i acc hi hz;have hlt:i<gs.length:=by omega
   have h3:=r23 gs[i] (hg _ (C1 hlt));have z3:=gF_size gs[i];rw [E1 hlt];simp only [gsF];unfold Gu.row at h3;rw [e12_0_1];by_cases h0:i=0
   · have h4:=ih (i+1) ((acc++ifB)++gF gs[i]) (by omega) (by rw [size_apB,size_apB]; have:ifB.size=4:=rfl; omega)
     rw [H8 (show ¬ i+1=0 by omega)] at h4
     have c1:decide (acc.size+(⟨#[32,105,102,32]⟩:ByteArray).size<=i64max)=true:=H7 (lt63 (by show acc.size+4<=_; omega))
     have c2:decide ((acc++(⟨#[32,105,102,32]⟩:ByteArray)).size+(gF gs[i]).size<=i64max)=true:=H7 (lt63 (by rw [size_apB]; show acc.size+4+_<=_; omega))
     simp only [D2,E3,hlt,H3,H1,inbN,D4,rowAt_map hlt,wrap_succ hlt (maxB (by omega)),Gu.row,nv0,nvS,dvI,dvB,dvS,dvL,B8,H7 (show (i:Int)=0 by omega),H7 h0,H1,h3,c1,c2]
     exact h4
   · have h4:=ih (i+1) ((acc++amB)++gF gs[i]) (by omega) (by rw [size_apB,size_apB]; have:amB.size=3:=rfl; omega)
     rw [H8 (show ¬ i+1=0 by omega)] at h4
     have c1:decide (acc.size+(⟨#[32,38,32]⟩:ByteArray).size<=i64max)=true:=H7 (lt63 (by show acc.size+3<=_; omega))
     have c2:decide ((acc++(⟨#[32,38,32]⟩:ByteArray)).size+(gF gs[i]).size<=i64max)=true:=H7 (lt63 (by rw [size_apB]; show acc.size+3+_<=_; omega))
     simp only [D2,E3,hlt,H3,H1,inbN,D4,rowAt_map hlt,wrap_succ hlt (maxB (by omega)),Gu.row,nv0,nvS,dvI,dvB,dvS,dvL,B8,H8 (show ¬(i:Int)=0 by omega),H8 h0,H2,H1,h3,c1,c2]
     exact h4
 have hr:rlB.size=7:=rfl;have h5:=key gs.length 0 (((rlB++tF l)++arB)++tF r) (K3 _) (by simp only [size_apB,hr]; have:arB.size=4:=rfl; omega)
 simp only [F2,J1,H3] at h5;have e:((rlB++tF l)++arB)++tF r=rlB++((tF l++arB)++tF r):=by simp only [ByteArray.append_assoc]
 have h5':rn ⟨12,0,1⟩ [.str (((rlB++tF l)++(⟨#[32,61,62,32]⟩:ByteArray))++tF r),.int 0,.str ⟨#[]⟩,.int l.k,.int l.n,.str l.s,.sl (l.as.map Tm.row),.int r.k,.int r.n,.str r.s,.sl (r.as.map Tm.row),.sl (gs.map Gu.row)]=some (0,[.str (rlB++sdF l r gs)]):=by
  have h6:=h5;rw [e,gsF_app,<- e] at h6;exact h6
 have er:((⟨#[114,117,108,101,32]⟩:ByteArray)++⟨#[]⟩)++⟨#[58,32]⟩=rlB:=rfl;have c1:decide ((⟨#[114,117,108,101,32]⟩:ByteArray).size+(⟨#[]⟩:ByteArray).size<=i64max)=true:=rfl;have c2:decide (((⟨#[114,117,108,101,32]⟩:ByteArray)++(⟨#[]⟩:ByteArray)).size+(⟨#[58,32]⟩:ByteArray).size<=i64max)=true:=rfl;have c3:decide (rlB.size+(tF l).size<=i64max)=true:=H7 (lt63 (by omega))
 have c4:decide ((rlB++tF l).size+(⟨#[32,61,62,32]⟩:ByteArray).size<=i64max)=true:=H7 (lt63 (by rw [size_apB,hr]; show 7+_+4<=_; omega))
 have c5:decide (((rlB++tF l)++(⟨#[32,61,62,32]⟩:ByteArray)).size+(tF r).size<=i64max)=true:=H7 (lt63 (by rw [size_apB,size_apB,hr]; show 7+_+4+_<=_; omega))
 rw [e12_0_0,c1,c2];simp only [h1,h2,nv0,nvS,dvI,dvB,dvS,dvL,B8,H1,er,c3,c4,c5,h5',K5,H1,H2]
theorem r5 (vs:Rows) (l r:Tm) (wl:Wt l) (wr:Wt r) (ln:l.nodes<=2097152) (lr:r.nodes<=2097152) (gs:List Gu) (hl:gs.length<=1048576) (hg:∀ g∈gs,GuB g):rn ⟨5,0,0⟩ [.sl vs,.int l.k,.int l.n,.str l.s,.sl (l.as.map Tm.row),.int r.k,.int r.n,.str r.s,.sl (r.as.map Tm.row),.sl (gs.map Gu.row)]=some (0,[.str (clB6++sdF l r gs)]):=by
 have z:=sdF_size l r gs;have hr:rlB.size=7:=rfl;have hx:(rlB++sdF l r gs).extract (Int.toNat 7) (Int.toNat (((rlB++sdF l r gs).size:Nat):Int))=sdF l r gs:=by
  rw [D4]; exact ext_pre _ _ rfl rfl
 have c0:decide ((0:Int)<=7)=true:=rfl;have c1:decide ((7:Int)<=(((rlB++sdF l r gs).size:Nat):Int))=true:=H7 (by rw [size_apB,hr]; omega)
 have c2:decide ((⟨#[99,108,97,105,109,32]⟩:ByteArray).size+(sdF l r gs).size<=i64max)=true:=H7 (lt63 (by show 6+_<=_; omega))
 rw [e5_0_0,fruleS l r wl wr ln lr gs hl hg];simp only [nv0,nvS,dvI,dvB,dvS,dvL,B8,c0,c1,Int.le_refl,H3,Q4,H1,hx,c2];rfl
end Go.Q.S
end
section
namespace Go.Proofs
open Go.Shelf
def Tryd.lays171_ren:Go.Shelf.Ren:=⟨fun | 171=>52 | 243=>57 | 246=>63 | 283=>67 | 284=>68 | 285=>69 | 286=>70 | 129=>74 | 317=>73 | 318=>75 | 319=>76 | 320=>77 | 337=>78 | 338=>79 | n=>n,fun | 3=>3 | 9=>9 | 2=>2 | 4=>4 | 171=>88 | 0=>0 | 53=>89 | 37=>73 | 5=>5 | 173=>92 | 212=>99 | 51=>100 | 20=>20 | 213=>101 | 46=>102 | 232=>105 | 233=>106 | n=>n,fun | 17=>0 | 18=>2 | 19=>3 | n=>n⟩
theorem Tryd.lays171:Go.Proofs.Lays.n171 Tryd.prog Tryd.lays171_ren:={
 mixed:=by kernel_rfl
 f129:=Tryd.func74.trans (congrArg some (by kernel_rfl))
 f171:=Tryd.func52.trans (congrArg some (by kernel_rfl))
 f243:=Tryd.func57.trans (congrArg some (by kernel_rfl))
 f246:=Tryd.func63.trans (congrArg some (by kernel_rfl))
 f283:=Tryd.func67.trans (congrArg some (by kernel_rfl))
 f284:=Tryd.func68.trans (congrArg some (by kernel_rfl))
 f285:=Tryd.func69.trans (congrArg some (by kernel_rfl))
 f286:=Tryd.func70.trans (congrArg some (by kernel_rfl))
 f317:=Tryd.func73.trans (congrArg some (by kernel_rfl))
 f318:=Tryd.func75.trans (congrArg some (by kernel_rfl))
 f319:=Tryd.func76.trans (congrArg some (by kernel_rfl))
 f320:=Tryd.func77.trans (congrArg some (by kernel_rfl))
 f337:=Tryd.func78.trans (congrArg some (by kernel_rfl))
 f338:=Tryd.func79.trans (congrArg some (by kernel_rfl))
 t0:=Tryd.underlying0
 a0:=Tryd.isAgg0
 z0:=Tryd.sizeOf0
 v0:=Tryd.zeroValue0
 t2:=Tryd.underlying2
 a2:=Tryd.isAgg2
 z2:=Tryd.sizeOf2
 v2:=Tryd.zeroValue2
 t3:=Tryd.underlying3
 a3:=Tryd.isAgg3
 z3:=Tryd.sizeOf3
 v3:=Tryd.zeroValue3
 t4:=Tryd.underlying4
 a4:=Tryd.isAgg4
 z4:=Tryd.sizeOf4
 v4:=Tryd.zeroValue4
 t5:=Tryd.underlying5
 a5:=Tryd.isAgg5
 z5:=Tryd.sizeOf5
 v5:=Tryd.zeroValue5
 t9:=Tryd.underlying9
 a9:=Tryd.isAgg9
 z9:=Tryd.sizeOf9
 v9:=Tryd.zeroValue9
 t20:=Tryd.underlying20
 a20:=Tryd.isAgg20
 z20:=Tryd.sizeOf20
 v20:=Tryd.zeroValue20
 t37:=Tryd.underlying73
 a37:=Tryd.isAgg73
 z37:=Tryd.sizeOf73
 v37:=Tryd.zeroValue73
 t46:=Tryd.underlying102
 a46:=Tryd.isAgg102
 z46:=Tryd.sizeOf102
 v46:=Tryd.zeroValue102
 t51:=Tryd.underlying100
 a51:=Tryd.isAgg100
 z51:=Tryd.sizeOf100
 v51:=Tryd.zeroValue100
 t53:=Tryd.underlying89
 a53:=Tryd.isAgg89
 z53:=Tryd.sizeOf89
 v53:=Tryd.zeroValue89
 t171:=Tryd.underlying88
 a171:=Tryd.isAgg88
 z171:=Tryd.sizeOf88
 v171:=Tryd.zeroValue88
 t173:=Tryd.underlying92
 a173:=Tryd.isAgg92
 z173:=Tryd.sizeOf92
 v173:=Tryd.zeroValue92
 t212:=Tryd.underlying99
 a212:=Tryd.isAgg99
 z212:=Tryd.sizeOf99
 v212:=Tryd.zeroValue99
 t213:=Tryd.underlying101
 a213:=Tryd.isAgg101
 z213:=Tryd.sizeOf101
 t232:=Tryd.underlying105
 a232:=Tryd.isAgg105
 z232:=Tryd.sizeOf105
 v232:=Tryd.zeroValue105
 t233:=Tryd.underlying106
 a233:=Tryd.isAgg106
 z233:=Tryd.sizeOf106
 v233:=Tryd.zeroValue106
 g17:=by kernel_rfl
 g18:=by kernel_rfl
 g19:=by kernel_rfl }
def Tryd.lays156_ren:Go.Shelf.Ren:=⟨fun | 156=>53 | 165=>58 | 166=>59 | 169=>60 | 240=>64 | 241=>65 | 276=>71 | 277=>72 | n=>n,fun | 31=>22 | 9=>9 | 3=>3 | 4=>4 | 0=>0 | 20=>20 | 72=>78 | 76=>82 | 70=>76 | 37=>73 | 75=>81 | 127=>87 | 164=>94 | 5=>5 | 80=>84 | n=>n,fun | n=>n⟩
theorem Tryd.lays156:Go.Proofs.Lays.n156 Tryd.prog Tryd.lays156_ren:={
 mixed:=by kernel_rfl
 f156:=Tryd.func53.trans (congrArg some (by kernel_rfl))
 f165:=Tryd.func58.trans (congrArg some (by kernel_rfl))
 f166:=Tryd.func59.trans (congrArg some (by kernel_rfl))
 f169:=Tryd.func60.trans (congrArg some (by kernel_rfl))
 f240:=Tryd.func64.trans (congrArg some (by kernel_rfl))
 f241:=Tryd.func65.trans (congrArg some (by kernel_rfl))
 f276:=Tryd.func71.trans (congrArg some (by kernel_rfl))
 f277:=Tryd.func72.trans (congrArg some (by kernel_rfl))
 t0:=Tryd.underlying0
 a0:=Tryd.isAgg0
 z0:=Tryd.sizeOf0
 v0:=Tryd.zeroValue0
 t3:=Tryd.underlying3
 a3:=Tryd.isAgg3
 z3:=Tryd.sizeOf3
 v3:=Tryd.zeroValue3
 t4:=Tryd.underlying4
 a4:=Tryd.isAgg4
 z4:=Tryd.sizeOf4
 v4:=Tryd.zeroValue4
 t9:=Tryd.underlying9
 a9:=Tryd.isAgg9
 z9:=Tryd.sizeOf9
 v9:=Tryd.zeroValue9
 t20:=Tryd.underlying20
 a20:=Tryd.isAgg20
 z20:=Tryd.sizeOf20
 v20:=Tryd.zeroValue20
 t31:=Tryd.underlying22
 a31:=Tryd.isAgg22
 z31:=Tryd.sizeOf22
 v31:=Tryd.zeroValue22
 t37:=Tryd.underlying73
 a37:=Tryd.isAgg73
 z37:=Tryd.sizeOf73
 v37:=Tryd.zeroValue73
 t70:=Tryd.underlying76
 a70:=Tryd.isAgg76
 z70:=Tryd.sizeOf76
 v70:=Tryd.zeroValue76
 t72:=Tryd.underlying78
 a72:=Tryd.isAgg78
 z72:=Tryd.sizeOf78
 v72:=Tryd.zeroValue78
 t75:=Tryd.underlying81
 a75:=Tryd.isAgg81
 z75:=Tryd.sizeOf81
 v75:=Tryd.zeroValue81
 t76:=Tryd.underlying82
 a76:=Tryd.isAgg82
 z76:=Tryd.sizeOf82
 v76:=Tryd.zeroValue82
 t127:=Tryd.underlying87
 a127:=Tryd.isAgg87
 z127:=Tryd.sizeOf87
 v127:=Tryd.zeroValue87
 t164:=Tryd.underlying94
 a164:=Tryd.isAgg94
 z164:=Tryd.sizeOf94
 v164:=Tryd.zeroValue94 }
theorem Tryd.Builder_Extra_156:Builder.Extra Tryd.prog Tryd.lays156_ren:={
 sizeBuilder:=by kernel_rfl
 liesBuilder:=by kernel_rfl
 t5:=Tryd.underlying5
 a5:=Tryd.isAgg5
 z5:=Tryd.sizeOf5
 v5:=Tryd.zeroValue5
 infoByte:=by kernel_rfl
 cellsByte:=by kernel_rfl
 sizeByte:=by kernel_rfl
 neB5:=by decide }
end Go.Proofs
namespace Go.Q.S
open Go Go.Q Go.Proofs
theorem kiF_mem:∀ {l:List (Nat×Nat×KI)} {v n:Nat} {i:KI},kiF l v n=some i->∃ a b,(a,b,i)∈l
 | [],v,n,i,h=>by simp [kiF] at h
 | (a,b,x)::r,v,n,i,h=>by
  unfold kiF at h;cases hb:C5 a v&&C5 b n with
  | true=>rw [hb] at h; simp only [H1,C0.injEq] at h; exact ⟨a,b,by rw [h]; exact List.mem_cons_self ..⟩
  | false =>
   rw [hb] at h;obtain ⟨a',b',h'⟩:=kiF_mem h;exact ⟨a',b',List.mem_cons_of_mem _ h'⟩
theorem ext_ok:∀ f g,H.ext f=some g->∀ v ls x,g v ls=some x->FnT Tryd.prog H ⟨f,v,0⟩ ls x:=fun f g h v ls x hx=>by
 have h:lookN extL f=some g:=h;simp only [extL,lookN] at h;cases h1:C5 52 f with
 | true =>
  rw [h1] at h;simp only [H1,C0.injEq] at h;subst h;obtain rfl:=beqN.1 h1;refine itoaS_fnT Go.Proofs.Tryd.lays171 rfl Tryd.func52 (fun he=>by cases he) (of_decide_eq_false (by kernel_rfl)) (fun i hi=>?_) hx
  obtain ⟨a,b,hm⟩:=kiF_mem (l:=[(0,0,⟨[(0,.int .i64)],[],[⟨.ret,[(0,.str)],[]⟩]⟩)]) hi;simp only [C4,List.not_mem_nil,or_false,Prod.mk.injEq] at hm;exact hm.2.2
 | false =>
 rw [h1] at h;simp only [H2] at h;cases h1:C5 53 f with
 | true =>
  rw [h1] at h;simp only [H1,C0.injEq] at h;subst h;obtain rfl:=beqN.1 h1;refine join_fnT Go.Proofs.Tryd.lays156 Go.Proofs.Tryd.Builder_Extra_156 rfl (E:=9) (fl:=[]) rfl Tryd.func53 (fun he=>by cases he) (of_decide_eq_false (by kernel_rfl)) (fun i hi=>?_) hx
  obtain ⟨a,b,hm⟩:=kiF_mem (l:=[(0,0,⟨[(0,.im 9),(1,.str)],[],[⟨.ret,[(0,.str)],[]⟩]⟩)]) hi;simp only [C4,List.not_mem_nil,or_false,Prod.mk.injEq] at hm;exact hm.2.2
 | false =>
 rw [h1] at h;simp only [H2] at h;simp at h
theorem fits:Fits Tryd.prog H where
 ty:=tyOK_of (l:=tyL) (fun _=>rfl) (by kernel_rfl)
 eq:=eqOK_of (l:=eqL) (fun _=>rfl) (by kernel_rfl)
 mixed:=Tryd.checked.mixed
 names:=names_of (by kernel_rfl)
 ext:=ext_ok
end Go.Q.S
end
section
namespace Go.Q.S
open Go Go.Q Go.Proofs
def RL:List (Nat×Nat):=[(9,9),(25,25),(25,33),(28,28),(28,36),(33,25),(33,33),(36,28),(36,36),(56,56),(56,60),(60,56),(60,60)]
theorem simR:simB H RL=true:=by kernel_rfl
theorem cv {ds:List D} {c c':List CT} (h:WL H ds c) (hc:layB RL c c'=true):WL H ds c':=WL.conv simR ds h hc
theorem bd20:Bd 1048576:=by unfold Bd; omega
theorem sub_le {b:Int} {n:Nat} (h:¬ sub b n<0):(n:Int)<=b/\sub b n=b-n:=by unfold sub at *; split at h <;> simp_all
theorem tmTy:TmTy H 33 [.int .i64,.int .i64,.str,.sl 33]:=⟨rfl,_,ty33,rfl⟩
theorem wide64:∀ e ti,H.ty e=some ti->ti.lay.length<=64:=fun e ti h=>by
 have hq:tyL.all (fun p=>K4 p.2.lay.length 64)=true:=by kernel_rfl
 have:=C7.1 hq _ (lookN_mem (show lookN tyL e=some ti from h))
 exact Nat.le_of_ble_eq_true this
end Go.Q.S
end
