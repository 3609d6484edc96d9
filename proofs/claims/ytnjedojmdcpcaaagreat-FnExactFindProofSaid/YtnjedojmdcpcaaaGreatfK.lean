/- The functions of this seat, as that machine runs them. -/
import Derived.Test.YtnjedojmdcpcaaaGreatfF
import Derived.Test.YtnjedojmdcpcaaaGreatMA
set_option linter.unusedVariables false
set_option linter.unusedSimpArgs false
namespace Go.Q.S
open Go Go.Q Go.Proofs
noncomputable def mt (k:Int):ByteArray:=match rn ⟨109,0,0⟩ [.int k] with | some (0,[.str s])=>s | _=>⟨#[]⟩
theorem mt_ok {k:Int} (h0:0<k) (hb:k<=BK):rn ⟨109,0,0⟩ [.int k]=some (0,[.str (mt k)]):=by
 have hg:∃ s,rn ⟨109,0,0⟩ [.int k]=some (0,[.str s]):=by
  rw [e109_0_0];rw [decide_eq_false (by omega:¬ k<=0)]
  simp only [cond_false];have hk:∀ (n:Nat) (k:Int) (t:ByteArray),0<=k->k<10 ^ n->k<=BK->t.size+n<=100->∃ s:ByteArray,s.size<=100/\rn ⟨109,0,1⟩ [.int k,.str t]=some (0,[.str s]):=by
   intro n;induction n with
   | zero =>
    intro k t h0 h1 _ ht;rw [e109_0_1];rw [decide_eq_false (by simp at h1; omega:¬(0:Int)<k)]
    exact ⟨t,by omega,rfl⟩
   | succ n ih =>
    intro k t h0 h1 hn ht; unfold BK at hn;by_cases hk:0<k
    · obtain ⟨s,hs,e⟩:=ih (k / 10) (bytesOf ([[.int (IntKind.u8.wrap (IntKind.i64.wrap (48+(Int.tmod k 10))))]]:Rows)++t) (by omega) (by rw [Int.pow_succ] at h1; omega) (by unfold BK; omega) (by rw [ByteArray.size_append,size1]; omega)
      refine ⟨s,hs,?_⟩;rw [e109_0_1];rw [decide_eq_true hk,decide_eq_false (by omega:¬(10:Int)=0),decide_eq_true (show (bytesOf ([[.int (IntKind.u8.wrap (IntKind.i64.wrap (48+(Int.tmod k 10))))]]:Rows)).size+t.size<=i64max from by rw [size1]; unfold i64max; omega)]
      simp only [cond_true,Bool.not_false];have hq:IntKind.i64.wrap (Int.tdiv k 10)=k / 10:=by
       rw [Int.tdiv_eq_ediv_of_nonneg h0];exact IntWalk.i64_in _ (by omega)
      rw [hq]; exact e
    · obtain rfl:k=0:=by omega
      rw [e109_0_1];exact ⟨t,by omega,rfl⟩
  obtain ⟨s,hs,e⟩:=hk 19 k ⟨#[]⟩ (by omega) (by unfold BK at hb; simp; omega) hb (by decide)
  rw [e];simp only [Option.bind_some,nth,List.getD_cons_zero,List.getD_cons_succ,D.I,D.S,D.L,D.B,Nat.beq_refl,cond_true];rw [decide_eq_true (show (⟨#[109]⟩:ByteArray).size+s.size<=i64max from by have:(⟨#[109]⟩:ByteArray).size=1:=rfl; unfold i64max; omega)]
  exact ⟨_,rfl⟩
 obtain ⟨s,e⟩:=hg;unfold mt;rw [e];rfl
theorem m98_1 {rs:Rows} (hl:rs.length<=maxLen) (hW:WRs H rs L9) {k:Int} (hk:0<k) (hb:k+cntR rs<=BK):rn ⟨98,1,0⟩ [.int k,.sl rs]=some (0,[.int (k+cntR rs),.sl (mkR mt rs k)]):=by
 show rn ⟨98,1,0⟩ _=_
 rw [e98_1_0];have hf:=mark_loop (mt:=mt) (F:=fun i k y=>rn ⟨98,1,1⟩ [.int k,.int (i:Int),.sl y]) (rs:=rs) hk hb (fun i hi k y hyl hy hk hb=>by
  have hw:=WRs_mem hW (List.getElem_mem hi);obtain ⟨a0,hr,b0⟩:=wl9 hw;have hiy:i<y.length:=by omega
  rw [hr] at hy hb ⊢;have em:mkL mt [.str a0] k=[.str (mt (k))]:=by simp only [mkL,mkD,cntD,Int.natCast_one]
  have ek:k+((cntL [.str a0]:Nat):Int)=k+1:=by simp only [cntL,cntD]; omega
  rw [em];rw [ek] at hb ⊢;have t0:=mt_ok (k:=k) (by omega) (by omega)
  have w0:IntKind.i64.wrap (k+1)=k+1:=wrap_k (by omega) (by omega)
  rw [e98_1_1];simp only [Int.toNat_natCast,over_row_two hiy,over_row_at hiy,over_row_len hiy,hyl,hy,inbN,hi,decide_true,cond_true,Int.ofNat_lt,over,nth,List.getD_cons_zero,List.getD_cons_succ,D.I,D.S,D.L,D.B,t0,w0,Option.bind_some,wrap_succ hi hl]) (fun k y hyl=>by
  rw [e98_1_1];simp [hyl])
 rw [Int.natCast_zero] at hf;simp only [hf,Option.bind_some,Nat.beq_refl,cond_true,nth,List.getD_cons_zero,List.getD_cons_succ,D.I,D.S,D.L,D.B]
theorem m98_2 {rs:Rows} (hl:rs.length<=maxLen) (hW:WRs H rs L9) {k:Int} (hk:0<k) (hb:k+cntR rs<=BK):rn ⟨98,2,0⟩ [.int k,.sl rs]=some (0,[.int (k+cntR rs),.sl (mkR mt rs k)]):=by
 show rn ⟨98,2,0⟩ _=_
 rw [e98_2_0];have hf:=mark_loop (mt:=mt) (F:=fun i k y=>rn ⟨98,2,1⟩ [.int k,.int (i:Int),.sl y]) (rs:=rs) hk hb (fun i hi k y hyl hy hk hb=>by
  have hw:=WRs_mem hW (List.getElem_mem hi);obtain ⟨a0,hr,b0⟩:=wl9 hw;have hiy:i<y.length:=by omega
  rw [hr] at hy hb ⊢;have em:mkL mt [.str a0] k=[.str (mt (k))]:=by simp only [mkL,mkD,cntD,Int.natCast_one]
  have ek:k+((cntL [.str a0]:Nat):Int)=k+1:=by simp only [cntL,cntD]; omega
  rw [em];rw [ek] at hb ⊢;have t0:=mt_ok (k:=k) (by omega) (by omega)
  have w0:IntKind.i64.wrap (k+1)=k+1:=wrap_k (by omega) (by omega)
  rw [e98_2_1];simp only [Int.toNat_natCast,over_row_two hiy,over_row_at hiy,over_row_len hiy,hyl,hy,inbN,hi,decide_true,cond_true,Int.ofNat_lt,over,nth,List.getD_cons_zero,List.getD_cons_succ,D.I,D.S,D.L,D.B,t0,w0,Option.bind_some,wrap_succ hi hl]) (fun k y hyl=>by
  rw [e98_2_1];simp [hyl])
 rw [Int.natCast_zero] at hf;simp only [hf,Option.bind_some,Nat.beq_refl,cond_true,nth,List.getD_cons_zero,List.getD_cons_succ,D.I,D.S,D.L,D.B]
theorem m180_1 {rs:Rows} (hl:rs.length<=maxLen) (hW:WRs H rs L286) {k:Int} (hk:0<k) (hb:k+cntR rs<=BK):rn ⟨180,1,0⟩ [.int k,.sl rs]=some (0,[.int (k+cntR rs),.sl (mkR mt rs k)]):=by
 show rn ⟨180,1,0⟩ _=_
 rw [e180_1_0];have hf:=mark_loop (mt:=mt) (F:=fun i k y=>rn ⟨180,1,1⟩ [.int k,.int (i:Int),.sl y]) (rs:=rs) hk hb (fun i hi k y hyl hy hk hb=>by
  have hw:=WRs_mem hW (List.getElem_mem hi);obtain ⟨a0,a1,a2,hr,b0,b1,c1,b2⟩:=wl286 hw;have hiy:i<y.length:=by omega
  rw [hr] at hy hb ⊢;have em:mkL mt [.str a0,.sl a1,.str a2] k=[.str (mt (k)),.sl (mkR mt a1 (k+1)),.str (mt (k+1+(cntR a1:Int)))]:=by simp only [mkL,mkD,cntD,Int.natCast_one]
  have ek:k+((cntL [.str a0,.sl a1,.str a2]:Nat):Int)=k+1+(cntR a1:Int)+1:=by simp only [cntL,cntD]; omega
  rw [em];rw [ek] at hb ⊢;have t0:=mt_ok (k:=k) (by omega) (by omega)
  have w0:IntKind.i64.wrap (k+1)=k+1:=wrap_k (by omega) (by omega)
  have s1:=m98_2 (k:=k+1) b1 c1 (by omega) (by omega)
  skip
  have t2:=mt_ok (k:=k+1+(cntR a1:Int)) (by omega) (by omega)
  have w2:IntKind.i64.wrap (k+1+(cntR a1:Int)+1)=k+1+(cntR a1:Int)+1:=wrap_k (by omega) (by omega)
  rw [e180_1_1];simp only [Int.toNat_natCast,over_row_two hiy,over_row_at hiy,over_row_len hiy,hyl,hy,inbN,hi,decide_true,cond_true,Int.ofNat_lt,over,nth,List.getD_cons_zero,List.getD_cons_succ,D.I,D.S,D.L,D.B,t0,w0,s1,t2,w2,Option.bind_some,wrap_succ hi hl]) (fun k y hyl=>by
  rw [e180_1_1];simp [hyl])
 rw [Int.natCast_zero] at hf;simp only [hf,Option.bind_some,Nat.beq_refl,cond_true,nth,List.getD_cons_zero,List.getD_cons_succ,D.I,D.S,D.L,D.B]
theorem mT95_1 (a0:Rows) (a1:Rows) (h:WL H [.sl a0,.sl a1] L41) {k:Int} (hk:0<k) (hb:k+(cntR a0:Int)+(cntR a1:Int)<=BK):rn ⟨95,1,0⟩ [.int k,.sl a0,.sl a1]=some (0,[.int (k+(cntR a0:Int)+(cntR a1:Int)),.sl (mkR mt a0 (k)),.sl (mkR mt a1 (k+(cntR a0:Int)))]):=by
 obtain ⟨x0,x1,hh,bx0,cx0,bx1,cx1⟩:=wl41 h;simp only [List.cons.injEq,D.int.injEq,D.bool.injEq,D.str.injEq,D.sl.injEq,and_true] at hh;obtain ⟨rfl,rfl⟩:=hh;have e0:=m98_1 (k:=k) bx0 cx0 (by omega) (by omega)
 skip
 have e1:=m180_1 (k:=k+(cntR a0:Int)) bx1 cx1 (by omega) (by omega)
 skip
 show rn ⟨95,1,0⟩ _=_
 rw [e95_1_0];simp only [e0,e1,Option.bind_some,cond_false,nth,List.getD_cons_zero,List.getD_cons_succ,D.I,D.S,D.L,D.B]
theorem m110_1:∀ (N:Nat) (rs:Rows),SizeOf.sizeOf rs<N->rs.length<=maxLen->WRs H rs L49->∀ k:Int,0<k->k+cntR rs<=BK->rn ⟨110,1,0⟩ [.int k,.sl rs]=some (0,[.int (k+cntR rs),.sl (mkR mt rs k)])
 | 0,rs,hN,_,_,_,_,_=>absurd hN (Nat.not_lt_zero _)
 | N+1,rs,hN,hl,hW,k,hk,hb=>by
  show rn ⟨110,1,0⟩ _=_
  rw [e110_1_0];have hf:=mark_loop (mt:=mt) (F:=fun i k y=>rn ⟨110,1,1⟩ [.int k,.int (i:Int),.sl y]) (rs:=rs) hk hb (fun i hi k y hyl hy hk hb=>by
   have hw:=WRs_mem hW (List.getElem_mem hi);obtain ⟨a0,a1,a2,a3,hr,b2,b3,c3⟩:=wl49 hw;have hiy:i<y.length:=by omega
   rw [hr] at hy hb ⊢;have em:mkL mt [.int a0,.int a1,.str a2,.sl a3] k=[.int (k),.int (k+1),.str (mt (k+1+1)),.sl (mkR mt a3 (k+1+1+1))]:=by simp only [mkL,mkD,cntD,Int.natCast_one]
   have ek:k+((cntL [.int a0,.int a1,.str a2,.sl a3]:Nat):Int)=k+1+1+1+(cntR a3:Int):=by simp only [cntL,cntD]; omega
   rw [em];rw [ek] at hb ⊢;have w0:IntKind.i64.wrap (k+1)=k+1:=wrap_k (by omega) (by omega)
   have w1:IntKind.i64.wrap (k+1+1)=k+1+1:=wrap_k (by omega) (by omega)
   have t2:=mt_ok (k:=k+1+1) (by omega) (by omega)
   have w2:IntKind.i64.wrap (k+1+1+1)=k+1+1+1:=wrap_k (by omega) (by omega)
   have s3:=m110_1 N a3 (by have h1:=size_row (r:=rs[i]) (rs:=rs) (List.getElem_mem hi); rw [hr] at h1; simp only [List.cons.sizeOf_spec,D.sl.sizeOf_spec] at h1 hN; omega) b3 c3 (k+1+1+1) (by omega) (by omega)
   skip
   rw [e110_1_1];simp only [Int.toNat_natCast,over_row_two hiy,over_row_at hiy,over_row_len hiy,hyl,hy,inbN,hi,decide_true,cond_true,Int.ofNat_lt,over,nth,List.getD_cons_zero,List.getD_cons_succ,D.I,D.S,D.L,D.B,w0,w1,t2,w2,s3,Option.bind_some,wrap_succ hi hl]) (fun k y hyl=>by
   rw [e110_1_1];simp [hyl])
  rw [Int.natCast_zero] at hf;simp only [hf,Option.bind_some,Nat.beq_refl,cond_true,nth,List.getD_cons_zero,List.getD_cons_succ,D.I,D.S,D.L,D.B]
theorem m141_1 {rs:Rows} (hl:rs.length<=maxLen) (hW:WRs H rs L275) {k:Int} (hk:0<k) (hb:k+cntR rs<=BK):rn ⟨141,1,0⟩ [.int k,.sl rs]=some (0,[.int (k+cntR rs),.sl (mkR mt rs k)]):=by
 show rn ⟨141,1,0⟩ _=_
 rw [e141_1_0];have hf:=mark_loop (mt:=mt) (F:=fun i k y=>rn ⟨141,1,1⟩ [.int k,.int (i:Int),.sl y]) (rs:=rs) hk hb (fun i hi k y hyl hy hk hb=>by
  have hw:=WRs_mem hW (List.getElem_mem hi);obtain ⟨a0,a1,a2,a3,a4,a5,a6,a7,a8,hr,b3,b4,c4,b7,b8,c8⟩:=wl275 hw;have hiy:i<y.length:=by omega
  rw [hr] at hy hb ⊢;have em:mkL mt [.int a0,.int a1,.int a2,.str a3,.sl a4,.int a5,.int a6,.str a7,.sl a8] k=[.int (k),.int (k+1),.int (k+1+1),.str (mt (k+1+1+1)),.sl (mkR mt a4 (k+1+1+1+1)),.int (k+1+1+1+1+(cntR a4:Int)),.int (k+1+1+1+1+(cntR a4:Int)+1),.str (mt (k+1+1+1+1+(cntR a4:Int)+1+1)),.sl (mkR mt a8 (k+1+1+1+1+(cntR a4:Int)+1+1+1))]:=by simp only [mkL,mkD,cntD,Int.natCast_one]
  have ek:k+((cntL [.int a0,.int a1,.int a2,.str a3,.sl a4,.int a5,.int a6,.str a7,.sl a8]:Nat):Int)=k+1+1+1+1+(cntR a4:Int)+1+1+1+(cntR a8:Int):=by simp only [cntL,cntD]; omega
  rw [em];rw [ek] at hb ⊢;have w0:IntKind.i64.wrap (k+1)=k+1:=wrap_k (by omega) (by omega)
  have w1:IntKind.i64.wrap (k+1+1)=k+1+1:=wrap_k (by omega) (by omega)
  have w2:IntKind.i64.wrap (k+1+1+1)=k+1+1+1:=wrap_k (by omega) (by omega)
  have t3:=mt_ok (k:=k+1+1+1) (by omega) (by omega)
  have w3:IntKind.i64.wrap (k+1+1+1+1)=k+1+1+1+1:=wrap_k (by omega) (by omega)
  have s4:=m110_1 _ a4 (Nat.lt_succ_self _) b4 c4 (k+1+1+1+1) (by omega) (by omega)
  skip
  have w5:IntKind.i64.wrap (k+1+1+1+1+(cntR a4:Int)+1)=k+1+1+1+1+(cntR a4:Int)+1:=wrap_k (by omega) (by omega)
  have w6:IntKind.i64.wrap (k+1+1+1+1+(cntR a4:Int)+1+1)=k+1+1+1+1+(cntR a4:Int)+1+1:=wrap_k (by omega) (by omega)
  have t7:=mt_ok (k:=k+1+1+1+1+(cntR a4:Int)+1+1) (by omega) (by omega)
  have w7:IntKind.i64.wrap (k+1+1+1+1+(cntR a4:Int)+1+1+1)=k+1+1+1+1+(cntR a4:Int)+1+1+1:=wrap_k (by omega) (by omega)
  have s8:=m110_1 _ a8 (Nat.lt_succ_self _) b8 c8 (k+1+1+1+1+(cntR a4:Int)+1+1+1) (by omega) (by omega)
  skip
  rw [e141_1_1];simp only [Int.toNat_natCast,over_row_two hiy,over_row_at hiy,over_row_len hiy,hyl,hy,inbN,hi,decide_true,cond_true,Int.ofNat_lt,over,nth,List.getD_cons_zero,List.getD_cons_succ,D.I,D.S,D.L,D.B,w0,w1,w2,t3,w3,s4,w5,w6,t7,w7,s8,Option.bind_some,wrap_succ hi hl]) (fun k y hyl=>by
  rw [e141_1_1];simp [hyl])
 rw [Int.natCast_zero] at hf;simp only [hf,Option.bind_some,Nat.beq_refl,cond_true,nth,List.getD_cons_zero,List.getD_cons_succ,D.I,D.S,D.L,D.B]
theorem m96_1 {rs:Rows} (hl:rs.length<=maxLen) (hW:WRs H rs L213) {k:Int} (hk:0<k) (hb:k+cntR rs<=BK):rn ⟨96,1,0⟩ [.int k,.sl rs]=some (0,[.int (k+cntR rs),.sl (mkR mt rs k)]):=by
 show rn ⟨96,1,0⟩ _=_
 rw [e96_1_0];have hf:=mark_loop (mt:=mt) (F:=fun i k y=>rn ⟨96,1,1⟩ [.int k,.int (i:Int),.sl y]) (rs:=rs) hk hb (fun i hi k y hyl hy hk hb=>by
  have hw:=WRs_mem hW (List.getElem_mem hi);obtain ⟨a0,a1,a2,a3,a4,a5,a6,a7,a8,a9,hr,b0,b3,b4,c4,b7,b8,c8,b9,c9⟩:=wl213 hw;have hiy:i<y.length:=by omega
  rw [hr] at hy hb ⊢;have em:mkL mt [.str a0,.int a1,.int a2,.str a3,.sl a4,.int a5,.int a6,.str a7,.sl a8,.sl a9] k=[.str (mt (k)),.int (k+1),.int (k+1+1),.str (mt (k+1+1+1)),.sl (mkR mt a4 (k+1+1+1+1)),.int (k+1+1+1+1+(cntR a4:Int)),.int (k+1+1+1+1+(cntR a4:Int)+1),.str (mt (k+1+1+1+1+(cntR a4:Int)+1+1)),.sl (mkR mt a8 (k+1+1+1+1+(cntR a4:Int)+1+1+1)),.sl (mkR mt a9 (k+1+1+1+1+(cntR a4:Int)+1+1+1+(cntR a8:Int)))]:=by simp only [mkL,mkD,cntD,Int.natCast_one]
  have ek:k+((cntL [.str a0,.int a1,.int a2,.str a3,.sl a4,.int a5,.int a6,.str a7,.sl a8,.sl a9]:Nat):Int)=k+1+1+1+1+(cntR a4:Int)+1+1+1+(cntR a8:Int)+(cntR a9:Int):=by simp only [cntL,cntD]; omega
  rw [em];rw [ek] at hb ⊢;have t0:=mt_ok (k:=k) (by omega) (by omega)
  have w0:IntKind.i64.wrap (k+1)=k+1:=wrap_k (by omega) (by omega)
  have w1:IntKind.i64.wrap (k+1+1)=k+1+1:=wrap_k (by omega) (by omega)
  have w2:IntKind.i64.wrap (k+1+1+1)=k+1+1+1:=wrap_k (by omega) (by omega)
  have t3:=mt_ok (k:=k+1+1+1) (by omega) (by omega)
  have w3:IntKind.i64.wrap (k+1+1+1+1)=k+1+1+1+1:=wrap_k (by omega) (by omega)
  have s4:=m110_1 _ a4 (Nat.lt_succ_self _) b4 c4 (k+1+1+1+1) (by omega) (by omega)
  skip
  have w5:IntKind.i64.wrap (k+1+1+1+1+(cntR a4:Int)+1)=k+1+1+1+1+(cntR a4:Int)+1:=wrap_k (by omega) (by omega)
  have w6:IntKind.i64.wrap (k+1+1+1+1+(cntR a4:Int)+1+1)=k+1+1+1+1+(cntR a4:Int)+1+1:=wrap_k (by omega) (by omega)
  have t7:=mt_ok (k:=k+1+1+1+1+(cntR a4:Int)+1+1) (by omega) (by omega)
  have w7:IntKind.i64.wrap (k+1+1+1+1+(cntR a4:Int)+1+1+1)=k+1+1+1+1+(cntR a4:Int)+1+1+1:=wrap_k (by omega) (by omega)
  have s8:=m110_1 _ a8 (Nat.lt_succ_self _) b8 c8 (k+1+1+1+1+(cntR a4:Int)+1+1+1) (by omega) (by omega)
  skip
  have s9:=m141_1 (k:=k+1+1+1+1+(cntR a4:Int)+1+1+1+(cntR a8:Int)) b9 c9 (by omega) (by omega)
  skip
  rw [e96_1_1];simp only [Int.toNat_natCast,over_row_two hiy,over_row_at hiy,over_row_len hiy,hyl,hy,inbN,hi,decide_true,cond_true,Int.ofNat_lt,over,nth,List.getD_cons_zero,List.getD_cons_succ,D.I,D.S,D.L,D.B,t0,w0,w1,w2,t3,w3,s4,w5,w6,t7,w7,s8,s9,Option.bind_some,wrap_succ hi hl]) (fun k y hyl=>by
  rw [e96_1_1];simp [hyl])
 rw [Int.natCast_zero] at hf;simp only [hf,Option.bind_some,Nat.beq_refl,cond_true,nth,List.getD_cons_zero,List.getD_cons_succ,D.I,D.S,D.L,D.B]
theorem m97_1 {rs:Rows} (hl:rs.length<=maxLen) (hW:WRs H rs L215) {k:Int} (hk:0<k) (hb:k+cntR rs<=BK):rn ⟨97,1,0⟩ [.int k,.sl rs]=some (0,[.int (k+cntR rs),.sl (mkR mt rs k)]):=by
 show rn ⟨97,1,0⟩ _=_
 rw [e97_1_0];have hf:=mark_loop (mt:=mt) (F:=fun i k y=>rn ⟨97,1,1⟩ [.int k,.int (i:Int),.sl y]) (rs:=rs) hk hb (fun i hi k y hyl hy hk hb=>by
  have hw:=WRs_mem hW (List.getElem_mem hi);obtain ⟨a0,a1,hr,b0⟩:=wl215 hw;have hiy:i<y.length:=by omega
  rw [hr] at hy hb ⊢;have em:mkL mt [.str a0,.int a1] k=[.str (mt (k)),.int (k+1)]:=by simp only [mkL,mkD,cntD,Int.natCast_one]
  have ek:k+((cntL [.str a0,.int a1]:Nat):Int)=k+1+1:=by simp only [cntL,cntD]; omega
  rw [em];rw [ek] at hb ⊢;have t0:=mt_ok (k:=k) (by omega) (by omega)
  have w0:IntKind.i64.wrap (k+1)=k+1:=wrap_k (by omega) (by omega)
  have w1:IntKind.i64.wrap (k+1+1)=k+1+1:=wrap_k (by omega) (by omega)
  rw [e97_1_1];simp only [Int.toNat_natCast,over_row_two hiy,over_row_at hiy,over_row_len hiy,hyl,hy,inbN,hi,decide_true,cond_true,Int.ofNat_lt,over,nth,List.getD_cons_zero,List.getD_cons_succ,D.I,D.S,D.L,D.B,t0,w0,w1,Option.bind_some,wrap_succ hi hl]) (fun k y hyl=>by
  rw [e97_1_1];simp [hyl])
 rw [Int.natCast_zero] at hf;simp only [hf,Option.bind_some,Nat.beq_refl,cond_true,nth,List.getD_cons_zero,List.getD_cons_succ,D.I,D.S,D.L,D.B]
theorem mT24_1 (a0:Rows) (a1:Rows) (a2:Rows) (a3:Rows) (h:WL H [.sl a0,.sl a1,.sl a2,.sl a3] L45) {k:Int} (hk:0<k) (hb:k+(cntR a0:Int)+(cntR a1:Int)+(cntR a2:Int)+(cntR a3:Int)<=BK):rn ⟨24,1,0⟩ [.int k,.sl a0,.sl a1,.sl a2,.sl a3]=some (0,[.int (k+(cntR a0:Int)+(cntR a1:Int)+(cntR a2:Int)+(cntR a3:Int)),.sl (mkR mt a0 (k)),.sl (mkR mt a1 (k+(cntR a0:Int))),.sl (mkR mt a2 (k+(cntR a0:Int)+(cntR a1:Int))),.sl (mkR mt a3 (k+(cntR a0:Int)+(cntR a1:Int)+(cntR a2:Int)))]):=by
 obtain ⟨x0,x1,x2,x3,hh,bx0,cx0,bx1,cx1,bx2,cx2,bx3,cx3⟩:=wl45 h;simp only [List.cons.injEq,D.int.injEq,D.bool.injEq,D.str.injEq,D.sl.injEq,and_true] at hh;obtain ⟨rfl,rfl,rfl,rfl⟩:=hh;have w0:WL H [.sl a0,.sl a1] L41:=WL.part 0 2 h;have e0:=mT95_1 a0 a1 w0 (k:=k) (by omega) (by omega)
 skip
 have e1:=m96_1 (k:=k+(cntR a0:Int)+(cntR a1:Int)) bx2 cx2 (by omega) (by omega)
 skip
 have e2:=m97_1 (k:=k+(cntR a0:Int)+(cntR a1:Int)+(cntR a2:Int)) bx3 cx3 (by omega) (by omega)
 skip
 show rn ⟨24,1,0⟩ _=_
 rw [e24_1_0];simp only [e0,e1,e2,Option.bind_some,cond_false,nth,List.getD_cons_zero,List.getD_cons_succ,D.I,D.S,D.L,D.B]
theorem m62_1 {rs:Rows} (hl:rs.length<=maxLen) (hW:WRs H rs L177) {k:Int} (hk:0<k) (hb:k+cntR rs<=BK):rn ⟨62,1,0⟩ [.int k,.sl rs]=some (0,[.int (k+cntR rs),.sl (mkR mt rs k)]):=by
 show rn ⟨62,1,0⟩ _=_
 rw [e62_1_0];have hf:=mark_loop (mt:=mt) (F:=fun i k y=>rn ⟨62,1,1⟩ [.int k,.int (i:Int),.sl y]) (rs:=rs) hk hb (fun i hi k y hyl hy hk hb=>by
  have hw:=WRs_mem hW (List.getElem_mem hi);obtain ⟨a0,a1,a2,a3,a4,a5,a6,a7,a8,a9,hr,b0,c0,b3,b4,c4,b7,b8,c8,b9,c9⟩:=wl177 hw;have hiy:i<y.length:=by omega
  rw [hr] at hy hb ⊢;have em:mkL mt [.sl a0,.int a1,.int a2,.str a3,.sl a4,.int a5,.int a6,.str a7,.sl a8,.sl a9] k=[.sl (mkR mt a0 (k)),.int (k+(cntR a0:Int)),.int (k+(cntR a0:Int)+1),.str (mt (k+(cntR a0:Int)+1+1)),.sl (mkR mt a4 (k+(cntR a0:Int)+1+1+1)),.int (k+(cntR a0:Int)+1+1+1+(cntR a4:Int)),.int (k+(cntR a0:Int)+1+1+1+(cntR a4:Int)+1),.str (mt (k+(cntR a0:Int)+1+1+1+(cntR a4:Int)+1+1)),.sl (mkR mt a8 (k+(cntR a0:Int)+1+1+1+(cntR a4:Int)+1+1+1)),.sl (mkR mt a9 (k+(cntR a0:Int)+1+1+1+(cntR a4:Int)+1+1+1+(cntR a8:Int)))]:=by simp only [mkL,mkD,cntD,Int.natCast_one]
  have ek:k+((cntL [.sl a0,.int a1,.int a2,.str a3,.sl a4,.int a5,.int a6,.str a7,.sl a8,.sl a9]:Nat):Int)=k+(cntR a0:Int)+1+1+1+(cntR a4:Int)+1+1+1+(cntR a8:Int)+(cntR a9:Int):=by simp only [cntL,cntD]; omega
  rw [em];rw [ek] at hb ⊢;have s0:=m98_2 (k:=k) b0 c0 (by omega) (by omega)
  skip
  have w1:IntKind.i64.wrap (k+(cntR a0:Int)+1)=k+(cntR a0:Int)+1:=wrap_k (by omega) (by omega)
  have w2:IntKind.i64.wrap (k+(cntR a0:Int)+1+1)=k+(cntR a0:Int)+1+1:=wrap_k (by omega) (by omega)
  have t3:=mt_ok (k:=k+(cntR a0:Int)+1+1) (by omega) (by omega)
  have w3:IntKind.i64.wrap (k+(cntR a0:Int)+1+1+1)=k+(cntR a0:Int)+1+1+1:=wrap_k (by omega) (by omega)
  have s4:=m110_1 _ a4 (Nat.lt_succ_self _) b4 c4 (k+(cntR a0:Int)+1+1+1) (by omega) (by omega)
  skip
  have w5:IntKind.i64.wrap (k+(cntR a0:Int)+1+1+1+(cntR a4:Int)+1)=k+(cntR a0:Int)+1+1+1+(cntR a4:Int)+1:=wrap_k (by omega) (by omega)
  have w6:IntKind.i64.wrap (k+(cntR a0:Int)+1+1+1+(cntR a4:Int)+1+1)=k+(cntR a0:Int)+1+1+1+(cntR a4:Int)+1+1:=wrap_k (by omega) (by omega)
  have t7:=mt_ok (k:=k+(cntR a0:Int)+1+1+1+(cntR a4:Int)+1+1) (by omega) (by omega)
  have w7:IntKind.i64.wrap (k+(cntR a0:Int)+1+1+1+(cntR a4:Int)+1+1+1)=k+(cntR a0:Int)+1+1+1+(cntR a4:Int)+1+1+1:=wrap_k (by omega) (by omega)
  have s8:=m110_1 _ a8 (Nat.lt_succ_self _) b8 c8 (k+(cntR a0:Int)+1+1+1+(cntR a4:Int)+1+1+1) (by omega) (by omega)
  skip
  have s9:=m141_1 (k:=k+(cntR a0:Int)+1+1+1+(cntR a4:Int)+1+1+1+(cntR a8:Int)) b9 c9 (by omega) (by omega)
  skip
  rw [e62_1_1];simp only [Int.toNat_natCast,over_row_two hiy,over_row_at hiy,over_row_len hiy,hyl,hy,inbN,hi,decide_true,cond_true,Int.ofNat_lt,over,nth,List.getD_cons_zero,List.getD_cons_succ,D.I,D.S,D.L,D.B,s0,w1,w2,t3,w3,s4,w5,w6,t7,w7,s8,s9,Option.bind_some,wrap_succ hi hl]) (fun k y hyl=>by
  rw [e62_1_1];simp [hyl])
 rw [Int.natCast_zero] at hf;simp only [hf,Option.bind_some,Nat.beq_refl,cond_true,nth,List.getD_cons_zero,List.getD_cons_succ,D.I,D.S,D.L,D.B]
theorem m100_1 {rs:Rows} (hl:rs.length<=maxLen) (hW:WRs H rs L3) {k:Int} (hk:0<k) (hb:k+cntR rs<=BK):rn ⟨100,1,0⟩ [.int k,.sl rs]=some (0,[.int (k+cntR rs),.sl (mkR mt rs k)]):=by
 show rn ⟨100,1,0⟩ _=_
 rw [e100_1_0];have hf:=mark_loop (mt:=mt) (F:=fun i k y=>rn ⟨100,1,1⟩ [.int k,.int (i:Int),.sl y]) (rs:=rs) hk hb (fun i hi k y hyl hy hk hb=>by
  have hw:=WRs_mem hW (List.getElem_mem hi);obtain ⟨a0,hr⟩:=wl3 hw;have hiy:i<y.length:=by omega
  rw [hr] at hy hb ⊢;have em:mkL mt [.int a0] k=[.int (k)]:=by simp only [mkL,mkD,cntD,Int.natCast_one]
  have ek:k+((cntL [.int a0]:Nat):Int)=k+1:=by simp only [cntL,cntD]; omega
  rw [em];rw [ek] at hb ⊢;have w0:IntKind.i64.wrap (k+1)=k+1:=wrap_k (by omega) (by omega)
  rw [e100_1_1];simp only [Int.toNat_natCast,over_row_two hiy,over_row_at hiy,over_row_len hiy,hyl,hy,inbN,hi,decide_true,cond_true,Int.ofNat_lt,over,nth,List.getD_cons_zero,List.getD_cons_succ,D.I,D.S,D.L,D.B,w0,Option.bind_some,wrap_succ hi hl]) (fun k y hyl=>by
  rw [e100_1_1];simp [hyl])
 rw [Int.natCast_zero] at hf;simp only [hf,Option.bind_some,Nat.beq_refl,cond_true,nth,List.getD_cons_zero,List.getD_cons_succ,D.I,D.S,D.L,D.B]
theorem m224_1 {rs:Rows} (hl:rs.length<=maxLen) (hW:WRs H rs L299) {k:Int} (hk:0<k) (hb:k+cntR rs<=BK):rn ⟨224,1,0⟩ [.int k,.sl rs]=some (0,[.int (k+cntR rs),.sl (mkR mt rs k)]):=by
 show rn ⟨224,1,0⟩ _=_
 rw [e224_1_0];have hf:=mark_loop (mt:=mt) (F:=fun i k y=>rn ⟨224,1,1⟩ [.int k,.int (i:Int),.sl y]) (rs:=rs) hk hb (fun i hi k y hyl hy hk hb=>by
  have hw:=WRs_mem hW (List.getElem_mem hi);obtain ⟨a0,a1,a2,a3,a4,hr,b0,b3,b4,c4⟩:=wl299 hw;have hiy:i<y.length:=by omega
  rw [hr] at hy hb ⊢;have em:mkL mt [.str a0,.int a1,.int a2,.str a3,.sl a4] k=[.str (mt (k)),.int (k+1),.int (k+1+1),.str (mt (k+1+1+1)),.sl (mkR mt a4 (k+1+1+1+1))]:=by simp only [mkL,mkD,cntD,Int.natCast_one]
  have ek:k+((cntL [.str a0,.int a1,.int a2,.str a3,.sl a4]:Nat):Int)=k+1+1+1+1+(cntR a4:Int):=by simp only [cntL,cntD]; omega
  rw [em];rw [ek] at hb ⊢;have t0:=mt_ok (k:=k) (by omega) (by omega)
  have w0:IntKind.i64.wrap (k+1)=k+1:=wrap_k (by omega) (by omega)
  have w1:IntKind.i64.wrap (k+1+1)=k+1+1:=wrap_k (by omega) (by omega)
  have w2:IntKind.i64.wrap (k+1+1+1)=k+1+1+1:=wrap_k (by omega) (by omega)
  have t3:=mt_ok (k:=k+1+1+1) (by omega) (by omega)
  have w3:IntKind.i64.wrap (k+1+1+1+1)=k+1+1+1+1:=wrap_k (by omega) (by omega)
  have s4:=m110_1 _ a4 (Nat.lt_succ_self _) b4 c4 (k+1+1+1+1) (by omega) (by omega)
  skip
  rw [e224_1_1];simp only [Int.toNat_natCast,over_row_two hiy,over_row_at hiy,over_row_len hiy,hyl,hy,inbN,hi,decide_true,cond_true,Int.ofNat_lt,over,nth,List.getD_cons_zero,List.getD_cons_succ,D.I,D.S,D.L,D.B,t0,w0,w1,w2,t3,w3,s4,Option.bind_some,wrap_succ hi hl]) (fun k y hyl=>by
  rw [e224_1_1];simp [hyl])
 rw [Int.natCast_zero] at hf;simp only [hf,Option.bind_some,Nat.beq_refl,cond_true,nth,List.getD_cons_zero,List.getD_cons_succ,D.I,D.S,D.L,D.B]
theorem m142_1 {rs:Rows} (hl:rs.length<=maxLen) (hW:WRs H rs L251) {k:Int} (hk:0<k) (hb:k+cntR rs<=BK):rn ⟨142,1,0⟩ [.int k,.sl rs]=some (0,[.int (k+cntR rs),.sl (mkR mt rs k)]):=by
 show rn ⟨142,1,0⟩ _=_
 rw [e142_1_0];have hf:=mark_loop (mt:=mt) (F:=fun i k y=>rn ⟨142,1,1⟩ [.int k,.int (i:Int),.sl y]) (rs:=rs) hk hb (fun i hi k y hyl hy hk hb=>by
  have hw:=WRs_mem hW (List.getElem_mem hi);obtain ⟨a0,a1,a2,a3,hr,b1,c1,b3,c3⟩:=wl251 hw;have hiy:i<y.length:=by omega
  rw [hr] at hy hb ⊢;have em:mkL mt [.int a0,.sl a1,.int a2,.sl a3] k=[.int (k),.sl (mkR mt a1 (k+1)),.int (k+1+(cntR a1:Int)),.sl (mkR mt a3 (k+1+(cntR a1:Int)+1))]:=by simp only [mkL,mkD,cntD,Int.natCast_one]
  have ek:k+((cntL [.int a0,.sl a1,.int a2,.sl a3]:Nat):Int)=k+1+(cntR a1:Int)+1+(cntR a3:Int):=by simp only [cntL,cntD]; omega
  rw [em];rw [ek] at hb ⊢;have w0:IntKind.i64.wrap (k+1)=k+1:=wrap_k (by omega) (by omega)
  have s1:=m100_1 (k:=k+1) b1 c1 (by omega) (by omega)
  skip
  have w2:IntKind.i64.wrap (k+1+(cntR a1:Int)+1)=k+1+(cntR a1:Int)+1:=wrap_k (by omega) (by omega)
  have s3:=m224_1 (k:=k+1+(cntR a1:Int)+1) b3 c3 (by omega) (by omega)
  skip
  rw [e142_1_1];simp only [Int.toNat_natCast,over_row_two hiy,over_row_at hiy,over_row_len hiy,hyl,hy,inbN,hi,decide_true,cond_true,Int.ofNat_lt,over,nth,List.getD_cons_zero,List.getD_cons_succ,D.I,D.S,D.L,D.B,w0,s1,w2,s3,Option.bind_some,wrap_succ hi hl]) (fun k y hyl=>by
  rw [e142_1_1];simp [hyl])
 rw [Int.natCast_zero] at hf;simp only [hf,Option.bind_some,Nat.beq_refl,cond_true,nth,List.getD_cons_zero,List.getD_cons_succ,D.I,D.S,D.L,D.B]
theorem mT63_1 (a0:Rows) (h:WL H [.sl a0] L85) {k:Int} (hk:0<k) (hb:k+(cntR a0:Int)<=BK):rn ⟨63,1,0⟩ [.int k,.sl a0]=some (0,[.int (k+(cntR a0:Int)),.sl (mkR mt a0 (k))]):=by
 obtain ⟨x0,hh,bx0,cx0⟩:=wl85 h;simp only [List.cons.injEq,D.int.injEq,D.bool.injEq,D.str.injEq,D.sl.injEq,and_true] at hh;obtain rfl:=hh;have e0:=m142_1 (k:=k) bx0 cx0 (by omega) (by omega)
 skip
 show rn ⟨63,1,0⟩ _=_
 rw [e63_1_0];simp only [e0,Option.bind_some,cond_false,nth,List.getD_cons_zero,List.getD_cons_succ,D.I,D.S,D.L,D.B]
theorem h103_0 {rs:Rows} (hl:rs.length<=maxLen) (hW:WRs H rs L3) {k:Int} (hk:0<k) (hb:k+cntR rs<=BK):rn ⟨103,0,0⟩ [.sl (mkR mt rs k),.int k]=some (0,[.int (k+cntR rs)]):=by
 show rn ⟨103,0,0⟩ _=_
 rw [e103_0_0];have hf:=held_loop (mt:=mt) (F:=fun i k'=>rn ⟨103,0,1⟩ [.sl (mkR mt rs k),.int k',.int (i:Int)]) (rs:=rs) hk hb (fun i hi k hrow hk hb=>by
  have hw:=WRs_mem hW (List.getElem_mem hi);obtain ⟨a0,hr⟩:=wl3 hw;rw [hr] at hrow hb ⊢;have em:mkL mt [.int a0] k=[.int (k)]:=by simp only [mkL,mkD,cntD,Int.natCast_one]
  have ek:k+((cntL [.int a0]:Nat):Int)=k+1:=by simp only [cntL,cntD]; omega
  rw [em] at hrow;rw [ek] at hb ⊢;have w0:IntKind.i64.wrap (k+1)=k+1:=wrap_k (by omega) (by omega)
  rw [e103_0_1];simp only [mkR_len,Int.toNat_natCast,hrow,inbN,hi,decide_true,cond_true,Int.ofNat_lt,Bool.not_true,cond_false,nth,List.getD_cons_zero,List.getD_cons_succ,D.I,D.S,D.L,D.B,w0,Option.bind_some,wrap_succ hi hl]) (fun k'=>by
  rw [e103_0_1];simp [mkR_len])
 rw [Int.natCast_zero] at hf;simp only [hf,Option.bind_some,Nat.beq_refl,cond_true,nth,List.getD_cons_zero,List.getD_cons_succ,D.I,D.S,D.L,D.B]
theorem h111_0:∀ (N:Nat) (rs:Rows),SizeOf.sizeOf rs<N->rs.length<=maxLen->WRs H rs L49->∀ k:Int,0<k->k+cntR rs<=BK->rn ⟨111,0,0⟩ [.sl (mkR mt rs k),.int k]=some (0,[.int (k+cntR rs)])
 | 0,rs,hN,_,_,_,_,_=>absurd hN (Nat.not_lt_zero _)
 | N+1,rs,hN,hl,hW,k,hk,hb=>by
  show rn ⟨111,0,0⟩ _=_
  rw [e111_0_0];have hf:=held_loop (mt:=mt) (F:=fun i k'=>rn ⟨111,0,1⟩ [.sl (mkR mt rs k),.int k',.int (i:Int)]) (rs:=rs) hk hb (fun i hi k hrow hk hb=>by
   have hw:=WRs_mem hW (List.getElem_mem hi);obtain ⟨a0,a1,a2,a3,hr,b2,b3,c3⟩:=wl49 hw;rw [hr] at hrow hb ⊢;have em:mkL mt [.int a0,.int a1,.str a2,.sl a3] k=[.int (k),.int (k+1),.str (mt (k+1+1)),.sl (mkR mt a3 (k+1+1+1))]:=by simp only [mkL,mkD,cntD,Int.natCast_one]
   have ek:k+((cntL [.int a0,.int a1,.str a2,.sl a3]:Nat):Int)=k+1+1+1+(cntR a3:Int):=by simp only [cntL,cntD]; omega
   rw [em] at hrow;rw [ek] at hb ⊢;have w0:IntKind.i64.wrap (k+1)=k+1:=wrap_k (by omega) (by omega)
   have w1:IntKind.i64.wrap (k+1+1)=k+1+1:=wrap_k (by omega) (by omega)
   have t2:=mt_ok (k:=k+1+1) (by omega) (by omega)
   have w2:IntKind.i64.wrap (k+1+1+1)=k+1+1+1:=wrap_k (by omega) (by omega)
   have s3:=h111_0 N a3 (by have h1:=size_row (r:=rs[i]) (rs:=rs) (List.getElem_mem hi); rw [hr] at h1; simp only [List.cons.sizeOf_spec,D.sl.sizeOf_spec] at h1 hN; omega) b3 c3 (k+1+1+1) (by omega) (by omega)
   skip
   have n3:=int_lt_zero (show 0<k+1+1+1+(cntR a3:Int) by omega)
   rw [e111_0_1];simp only [mkR_len,Int.toNat_natCast,hrow,inbN,hi,decide_true,cond_true,Int.ofNat_lt,Bool.not_true,cond_false,nth,List.getD_cons_zero,List.getD_cons_succ,D.I,D.S,D.L,D.B,w0,w1,t2,w2,s3,n3,Option.bind_some,wrap_succ hi hl]) (fun k'=>by
   rw [e111_0_1];simp [mkR_len])
  rw [Int.natCast_zero] at hf;simp only [hf,Option.bind_some,Nat.beq_refl,cond_true,nth,List.getD_cons_zero,List.getD_cons_succ,D.I,D.S,D.L,D.B]
theorem h225_0 {rs:Rows} (hl:rs.length<=maxLen) (hW:WRs H rs L299) {k:Int} (hk:0<k) (hb:k+cntR rs<=BK):rn ⟨225,0,0⟩ [.sl (mkR mt rs k),.int k]=some (0,[.int (k+cntR rs)]):=by
 show rn ⟨225,0,0⟩ _=_
 rw [e225_0_0];have hf:=held_loop (mt:=mt) (F:=fun i k'=>rn ⟨225,0,1⟩ [.sl (mkR mt rs k),.int k',.int (i:Int)]) (rs:=rs) hk hb (fun i hi k hrow hk hb=>by
  have hw:=WRs_mem hW (List.getElem_mem hi);obtain ⟨a0,a1,a2,a3,a4,hr,b0,b3,b4,c4⟩:=wl299 hw;rw [hr] at hrow hb ⊢;have em:mkL mt [.str a0,.int a1,.int a2,.str a3,.sl a4] k=[.str (mt (k)),.int (k+1),.int (k+1+1),.str (mt (k+1+1+1)),.sl (mkR mt a4 (k+1+1+1+1))]:=by simp only [mkL,mkD,cntD,Int.natCast_one]
  have ek:k+((cntL [.str a0,.int a1,.int a2,.str a3,.sl a4]:Nat):Int)=k+1+1+1+1+(cntR a4:Int):=by simp only [cntL,cntD]; omega
  rw [em] at hrow;rw [ek] at hb ⊢;have t0:=mt_ok (k:=k) (by omega) (by omega)
  have w0:IntKind.i64.wrap (k+1)=k+1:=wrap_k (by omega) (by omega)
  have w1:IntKind.i64.wrap (k+1+1)=k+1+1:=wrap_k (by omega) (by omega)
  have w2:IntKind.i64.wrap (k+1+1+1)=k+1+1+1:=wrap_k (by omega) (by omega)
  have t3:=mt_ok (k:=k+1+1+1) (by omega) (by omega)
  have w3:IntKind.i64.wrap (k+1+1+1+1)=k+1+1+1+1:=wrap_k (by omega) (by omega)
  have s4:=h111_0 _ a4 (Nat.lt_succ_self _) b4 c4 (k+1+1+1+1) (by omega) (by omega)
  skip
  have n4:=int_lt_zero (show 0<k+1+1+1+1+(cntR a4:Int) by omega)
  rw [e225_0_1];simp only [mkR_len,Int.toNat_natCast,hrow,inbN,hi,decide_true,cond_true,Int.ofNat_lt,Bool.not_true,cond_false,nth,List.getD_cons_zero,List.getD_cons_succ,D.I,D.S,D.L,D.B,t0,w0,w1,w2,t3,w3,s4,n4,Option.bind_some,wrap_succ hi hl]) (fun k'=>by
  rw [e225_0_1];simp [mkR_len])
 rw [Int.natCast_zero] at hf;simp only [hf,Option.bind_some,Nat.beq_refl,cond_true,nth,List.getD_cons_zero,List.getD_cons_succ,D.I,D.S,D.L,D.B]
theorem h143_0 {rs:Rows} (hl:rs.length<=maxLen) (hW:WRs H rs L251) {k:Int} (hk:0<k) (hb:k+cntR rs<=BK):rn ⟨143,0,0⟩ [.sl (mkR mt rs k),.int k]=some (0,[.int (k+cntR rs)]):=by
 show rn ⟨143,0,0⟩ _=_
 rw [e143_0_0];have hf:=held_loop (mt:=mt) (F:=fun i k'=>rn ⟨143,0,1⟩ [.sl (mkR mt rs k),.int k',.int (i:Int)]) (rs:=rs) hk hb (fun i hi k hrow hk hb=>by
  have hw:=WRs_mem hW (List.getElem_mem hi);obtain ⟨a0,a1,a2,a3,hr,b1,c1,b3,c3⟩:=wl251 hw;rw [hr] at hrow hb ⊢;have em:mkL mt [.int a0,.sl a1,.int a2,.sl a3] k=[.int (k),.sl (mkR mt a1 (k+1)),.int (k+1+(cntR a1:Int)),.sl (mkR mt a3 (k+1+(cntR a1:Int)+1))]:=by simp only [mkL,mkD,cntD,Int.natCast_one]
  have ek:k+((cntL [.int a0,.sl a1,.int a2,.sl a3]:Nat):Int)=k+1+(cntR a1:Int)+1+(cntR a3:Int):=by simp only [cntL,cntD]; omega
  rw [em] at hrow;rw [ek] at hb ⊢;have w0:IntKind.i64.wrap (k+1)=k+1:=wrap_k (by omega) (by omega)
  have s1:=h103_0 (k:=k+1) b1 c1 (by omega) (by omega)
  skip
  have n1:=int_lt_zero (show 0<k+1+(cntR a1:Int) by omega)
  have w2:IntKind.i64.wrap (k+1+(cntR a1:Int)+1)=k+1+(cntR a1:Int)+1:=wrap_k (by omega) (by omega)
  have s3:=h225_0 (k:=k+1+(cntR a1:Int)+1) b3 c3 (by omega) (by omega)
  skip
  have n3:=int_lt_zero (show 0<k+1+(cntR a1:Int)+1+(cntR a3:Int) by omega)
  rw [e143_0_1];simp only [mkR_len,Int.toNat_natCast,hrow,inbN,hi,decide_true,cond_true,Int.ofNat_lt,Bool.not_true,cond_false,nth,List.getD_cons_zero,List.getD_cons_succ,D.I,D.S,D.L,D.B,w0,s1,n1,w2,s3,n3,Option.bind_some,wrap_succ hi hl]) (fun k'=>by
  rw [e143_0_1];simp [mkR_len])
 rw [Int.natCast_zero] at hf;simp only [hf,Option.bind_some,Nat.beq_refl,cond_true,nth,List.getD_cons_zero,List.getD_cons_succ,D.I,D.S,D.L,D.B]
theorem hT64_0 (a0:Rows) (h:WL H [.sl a0] L85) {k:Int} (hk:0<k) (hb:k+(cntR a0:Int)<=BK):rn ⟨64,0,0⟩ [.sl (mkR mt a0 (k)),.int k]=some (0,[.int (k+(cntR a0:Int))]):=by
 obtain ⟨x0,hh,bx0,cx0⟩:=wl85 h;simp only [List.cons.injEq,D.int.injEq,D.bool.injEq,D.str.injEq,D.sl.injEq,and_true] at hh;obtain rfl:=hh;have e0:=h143_0 (k:=k) bx0 cx0 (by omega) (by omega)
 skip
 have n0:=int_lt_zero (show 0<k+(cntR a0:Int) by omega)
 show rn ⟨64,0,0⟩ _=_
 rw [e64_0_0];simp only [e0,n0,Option.bind_some,cond_false,nth,List.getD_cons_zero,List.getD_cons_succ,D.I,D.S,D.L,D.B]
end Go.Q.S
