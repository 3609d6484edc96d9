/- The functions of this seat, as that machine runs them. -/
import Derived.Test.YthlngiieofkmiaaGreatpF
import Derived.Test.YthlngiieofkmiaaGreatM5
set_option linter.unusedVariables false
set_option linter.unusedSimpArgs false
namespace Go.Q.S
open Go Go.Q Go.Proofs
noncomputable def mt (k : Int) : ByteArray := match rn ⟨140,0,0⟩ [.int k] with | some (0,[.str s]) => s | _ => ⟨#[]⟩
theorem mt_ok {k : Int} (h0 : 0 < k) (hb : k <= BK) : rn ⟨140,0,0⟩ [.int k] = some (0,[.str (mt k)]) := by
 have hg : ∃ s,rn ⟨140,0,0⟩ [.int k] = some (0,[.str s]) := by
  rw [e140_0_0]
  rw [decide_eq_false (by omega : ¬ k <= 0)]
  simp only [cond_false]
  have hk : ∀ (n : Nat) (k : Int) (t : ByteArray),0 <= k -> k < 10 ^ n -> k <= BK -> t.size + n <= 100 -> ∃ s : ByteArray,s.size <= 100 /\ rn ⟨140,0,1⟩ [.int k,.str t] = some (0,[.str s]) := by
   intro n
   induction n with
   | zero =>
    intro k t h0 h1 _ ht
    rw [e140_0_1]
    rw [decide_eq_false (by simp at h1; omega : ¬ (0 : Int) < k)]
    exact ⟨t,by omega,rfl⟩
   | succ n ih =>
    intro k t h0 h1 hn ht; unfold BK at hn
    by_cases hk : 0 < k
    · obtain ⟨s,hs,e⟩ := ih (k / 10) (bytesOf ([[.int (IntKind.u8.wrap (IntKind.i64.wrap (48 + (Int.tmod k 10))))]] : Rows) ++ t) (by omega) (by rw [Int.pow_succ] at h1; omega) (by unfold BK; omega) (by rw [ByteArray.size_append,size1]; omega)
      refine ⟨s,hs,?_⟩
      rw [e140_0_1]
      rw [decide_eq_true hk,decide_eq_false (by omega : ¬ (10 : Int) = 0),decide_eq_true (show (bytesOf ([[.int (IntKind.u8.wrap (IntKind.i64.wrap (48 + (Int.tmod k 10))))]] : Rows)).size + t.size <= i64max from by rw [size1]; unfold i64max; omega)]
      simp only [cond_true,Bool.not_false]
      have hq : IntKind.i64.wrap (Int.tdiv k 10) = k / 10 := by
       rw [Int.tdiv_eq_ediv_of_nonneg h0]
       exact IntWalk.i64_in _ (by omega)
      rw [hq]; exact e
    · obtain rfl : k = 0 := by omega
      rw [e140_0_1]
      exact ⟨t,by omega,rfl⟩
  obtain ⟨s,hs,e⟩ := hk 19 k ⟨#[]⟩ (by omega) (by unfold BK at hb; simp; omega) hb (by decide)
  rw [e]
  simp only [Option.bind_some,nth,List.getD_cons_zero,List.getD_cons_succ,D.I,D.S,D.L,D.B,Nat.beq_refl,cond_true]
  rw [decide_eq_true (show (⟨#[109]⟩ : ByteArray).size + s.size <= i64max from by have : (⟨#[109]⟩ : ByteArray).size = 1 := rfl; unfold i64max; omega)]
  exact ⟨_,rfl⟩
 obtain ⟨s,e⟩ := hg
 unfold mt
 rw [e]
 rfl
theorem m133_1 {rs : Rows} (hl : rs.length <= maxLen) (hW : WRs H rs L9) {k : Int} (hk : 0 < k) (hb : k + cntR rs <= BK) : rn ⟨133,1,0⟩ [.int k,.sl rs] = some (0,[.int (k + cntR rs),.sl (mkR mt rs k)]) := by
 show rn ⟨133,1,0⟩ _ = _
 rw [e133_1_0]
 have hf := mark_loop (mt := mt) (F := fun i k y => rn ⟨133,1,1⟩ [.int k,.int (i : Int),.sl y]) (rs := rs) hk hb (fun i hi k y hyl hy hk hb => by
  have hw := WRs_mem hW (List.getElem_mem hi)
  obtain ⟨a0,hr,b0⟩ := wl9 hw
  have hiy : i < y.length := by omega
  rw [hr] at hy hb ⊢
  have em : mkL mt [.str a0] k = [.str (mt (k))] := by simp only [mkL,mkD,cntD,Int.natCast_one]
  have ek : k + ((cntL [.str a0] : Nat) : Int) = k + 1 := by simp only [cntL,cntD]; omega
  rw [em]
  rw [ek] at hb ⊢
  have t0 := mt_ok (k := k) (by omega) (by omega)
  have w0 : IntKind.i64.wrap (k + 1) = k + 1 := wrap_k (by omega) (by omega)
  rw [e133_1_1]
  simp only [Int.toNat_natCast,over_row_two hiy,over_row_at hiy,over_row_len hiy,hyl,hy,inbN,hi,decide_true,cond_true,Int.ofNat_lt,over,nth,List.getD_cons_zero,List.getD_cons_succ,D.I,D.S,D.L,D.B,t0,w0,Option.bind_some,wrap_succ hi hl]) (fun k y hyl => by
  rw [e133_1_1]
  simp [hyl])
 rw [Int.natCast_zero] at hf
 simp only [hf,Option.bind_some,Nat.beq_refl,cond_true,nth,List.getD_cons_zero,List.getD_cons_succ,D.I,D.S,D.L,D.B]
theorem m133_2 {rs : Rows} (hl : rs.length <= maxLen) (hW : WRs H rs L9) {k : Int} (hk : 0 < k) (hb : k + cntR rs <= BK) : rn ⟨133,2,0⟩ [.int k,.sl rs] = some (0,[.int (k + cntR rs),.sl (mkR mt rs k)]) := by
 show rn ⟨133,2,0⟩ _ = _
 rw [e133_2_0]
 have hf := mark_loop (mt := mt) (F := fun i k y => rn ⟨133,2,1⟩ [.int k,.int (i : Int),.sl y]) (rs := rs) hk hb (fun i hi k y hyl hy hk hb => by
  have hw := WRs_mem hW (List.getElem_mem hi)
  obtain ⟨a0,hr,b0⟩ := wl9 hw
  have hiy : i < y.length := by omega
  rw [hr] at hy hb ⊢
  have em : mkL mt [.str a0] k = [.str (mt (k))] := by simp only [mkL,mkD,cntD,Int.natCast_one]
  have ek : k + ((cntL [.str a0] : Nat) : Int) = k + 1 := by simp only [cntL,cntD]; omega
  rw [em]
  rw [ek] at hb ⊢
  have t0 := mt_ok (k := k) (by omega) (by omega)
  have w0 : IntKind.i64.wrap (k + 1) = k + 1 := wrap_k (by omega) (by omega)
  rw [e133_2_1]
  simp only [Int.toNat_natCast,over_row_two hiy,over_row_at hiy,over_row_len hiy,hyl,hy,inbN,hi,decide_true,cond_true,Int.ofNat_lt,over,nth,List.getD_cons_zero,List.getD_cons_succ,D.I,D.S,D.L,D.B,t0,w0,Option.bind_some,wrap_succ hi hl]) (fun k y hyl => by
  rw [e133_2_1]
  simp [hyl])
 rw [Int.natCast_zero] at hf
 simp only [hf,Option.bind_some,Nat.beq_refl,cond_true,nth,List.getD_cons_zero,List.getD_cons_succ,D.I,D.S,D.L,D.B]
theorem m179_1 {rs : Rows} (hl : rs.length <= maxLen) (hW : WRs H rs L200) {k : Int} (hk : 0 < k) (hb : k + cntR rs <= BK) : rn ⟨179,1,0⟩ [.int k,.sl rs] = some (0,[.int (k + cntR rs),.sl (mkR mt rs k)]) := by
 show rn ⟨179,1,0⟩ _ = _
 rw [e179_1_0]
 have hf := mark_loop (mt := mt) (F := fun i k y => rn ⟨179,1,1⟩ [.int k,.int (i : Int),.sl y]) (rs := rs) hk hb (fun i hi k y hyl hy hk hb => by
  have hw := WRs_mem hW (List.getElem_mem hi)
  obtain ⟨a0,a1,a2,hr,b0,b1,c1,b2⟩ := wl200 hw
  have hiy : i < y.length := by omega
  rw [hr] at hy hb ⊢
  have em : mkL mt [.str a0,.sl a1,.str a2] k = [.str (mt (k)),.sl (mkR mt a1 (k + 1)),.str (mt (k + 1 + (cntR a1 : Int)))] := by simp only [mkL,mkD,cntD,Int.natCast_one]
  have ek : k + ((cntL [.str a0,.sl a1,.str a2] : Nat) : Int) = k + 1 + (cntR a1 : Int) + 1 := by simp only [cntL,cntD]; omega
  rw [em]
  rw [ek] at hb ⊢
  have t0 := mt_ok (k := k) (by omega) (by omega)
  have w0 : IntKind.i64.wrap (k + 1) = k + 1 := wrap_k (by omega) (by omega)
  have s1 := m133_2 (k := k + 1) b1 c1 (by omega) (by omega)
  skip
  have t2 := mt_ok (k := k + 1 + (cntR a1 : Int)) (by omega) (by omega)
  have w2 : IntKind.i64.wrap (k + 1 + (cntR a1 : Int) + 1) = k + 1 + (cntR a1 : Int) + 1 := wrap_k (by omega) (by omega)
  rw [e179_1_1]
  simp only [Int.toNat_natCast,over_row_two hiy,over_row_at hiy,over_row_len hiy,hyl,hy,inbN,hi,decide_true,cond_true,Int.ofNat_lt,over,nth,List.getD_cons_zero,List.getD_cons_succ,D.I,D.S,D.L,D.B,t0,w0,s1,t2,w2,Option.bind_some,wrap_succ hi hl]) (fun k y hyl => by
  rw [e179_1_1]
  simp [hyl])
 rw [Int.natCast_zero] at hf
 simp only [hf,Option.bind_some,Nat.beq_refl,cond_true,nth,List.getD_cons_zero,List.getD_cons_succ,D.I,D.S,D.L,D.B]
theorem mT109_1 (a0 : Rows) (a1 : Rows) (h : WL H [.sl a0,.sl a1] L41) {k : Int} (hk : 0 < k) (hb : k + (cntR a0 : Int) + (cntR a1 : Int) <= BK) : rn ⟨109,1,0⟩ [.int k,.sl a0,.sl a1] = some (0,[.int (k + (cntR a0 : Int) + (cntR a1 : Int)),.sl (mkR mt a0 (k)),.sl (mkR mt a1 (k + (cntR a0 : Int)))]) := by
 obtain ⟨x0,x1,hh,bx0,cx0,bx1,cx1⟩ := wl41 h
 simp only [List.cons.injEq,D.int.injEq,D.bool.injEq,D.str.injEq,D.sl.injEq,and_true] at hh
 obtain ⟨rfl,rfl⟩ := hh
 have e0 := m133_1 (k := k) bx0 cx0 (by omega) (by omega)
 skip
 have e1 := m179_1 (k := k + (cntR a0 : Int)) bx1 cx1 (by omega) (by omega)
 skip
 show rn ⟨109,1,0⟩ _ = _
 rw [e109_1_0]
 simp only [e0,e1,Option.bind_some,cond_false,nth,List.getD_cons_zero,List.getD_cons_succ,D.I,D.S,D.L,D.B]
theorem m112_1 : ∀ (N : Nat) (rs : Rows),SizeOf.sizeOf rs < N -> rs.length <= maxLen -> WRs H rs L49 -> ∀ k : Int,0 < k -> k + cntR rs <= BK -> rn ⟨112,1,0⟩ [.int k,.sl rs] = some (0,[.int (k + cntR rs),.sl (mkR mt rs k)])
 | 0,rs,hN,_,_,_,_,_ => absurd hN (Nat.not_lt_zero _)
 | N + 1,rs,hN,hl,hW,k,hk,hb => by
  show rn ⟨112,1,0⟩ _ = _
  rw [e112_1_0]
  have hf := mark_loop (mt := mt) (F := fun i k y => rn ⟨112,1,1⟩ [.int k,.int (i : Int),.sl y]) (rs := rs) hk hb (fun i hi k y hyl hy hk hb => by
   have hw := WRs_mem hW (List.getElem_mem hi)
   obtain ⟨a0,a1,a2,a3,hr,b2,b3,c3⟩ := wl49 hw
   have hiy : i < y.length := by omega
   rw [hr] at hy hb ⊢
   have em : mkL mt [.int a0,.int a1,.str a2,.sl a3] k = [.int (k),.int (k + 1),.str (mt (k + 1 + 1)),.sl (mkR mt a3 (k + 1 + 1 + 1))] := by simp only [mkL,mkD,cntD,Int.natCast_one]
   have ek : k + ((cntL [.int a0,.int a1,.str a2,.sl a3] : Nat) : Int) = k + 1 + 1 + 1 + (cntR a3 : Int) := by simp only [cntL,cntD]; omega
   rw [em]
   rw [ek] at hb ⊢
   have w0 : IntKind.i64.wrap (k + 1) = k + 1 := wrap_k (by omega) (by omega)
   have w1 : IntKind.i64.wrap (k + 1 + 1) = k + 1 + 1 := wrap_k (by omega) (by omega)
   have t2 := mt_ok (k := k + 1 + 1) (by omega) (by omega)
   have w2 : IntKind.i64.wrap (k + 1 + 1 + 1) = k + 1 + 1 + 1 := wrap_k (by omega) (by omega)
   have s3 := m112_1 N a3 (by have h1 := size_row (r := rs[i]) (rs := rs) (List.getElem_mem hi); rw [hr] at h1; simp only [List.cons.sizeOf_spec,D.sl.sizeOf_spec] at h1 hN; omega) b3 c3 (k + 1 + 1 + 1) (by omega) (by omega)
   skip
   rw [e112_1_1]
   simp only [Int.toNat_natCast,over_row_two hiy,over_row_at hiy,over_row_len hiy,hyl,hy,inbN,hi,decide_true,cond_true,Int.ofNat_lt,over,nth,List.getD_cons_zero,List.getD_cons_succ,D.I,D.S,D.L,D.B,w0,w1,t2,w2,s3,Option.bind_some,wrap_succ hi hl]) (fun k y hyl => by
   rw [e112_1_1]
   simp [hyl])
  rw [Int.natCast_zero] at hf
  simp only [hf,Option.bind_some,Nat.beq_refl,cond_true,nth,List.getD_cons_zero,List.getD_cons_succ,D.I,D.S,D.L,D.B]
theorem m180_1 {rs : Rows} (hl : rs.length <= maxLen) (hW : WRs H rs L127) {k : Int} (hk : 0 < k) (hb : k + cntR rs <= BK) : rn ⟨180,1,0⟩ [.int k,.sl rs] = some (0,[.int (k + cntR rs),.sl (mkR mt rs k)]) := by
 show rn ⟨180,1,0⟩ _ = _
 rw [e180_1_0]
 have hf := mark_loop (mt := mt) (F := fun i k y => rn ⟨180,1,1⟩ [.int k,.int (i : Int),.sl y]) (rs := rs) hk hb (fun i hi k y hyl hy hk hb => by
  have hw := WRs_mem hW (List.getElem_mem hi)
  obtain ⟨a0,a1,a2,a3,a4,a5,a6,a7,a8,hr,b3,b4,c4,b7,b8,c8⟩ := wl127 hw
  have hiy : i < y.length := by omega
  rw [hr] at hy hb ⊢
  have em : mkL mt [.int a0,.int a1,.int a2,.str a3,.sl a4,.int a5,.int a6,.str a7,.sl a8] k = [.int (k),.int (k + 1),.int (k + 1 + 1),.str (mt (k + 1 + 1 + 1)),.sl (mkR mt a4 (k + 1 + 1 + 1 + 1)),.int (k + 1 + 1 + 1 + 1 + (cntR a4 : Int)),.int (k + 1 + 1 + 1 + 1 + (cntR a4 : Int) + 1),.str (mt (k + 1 + 1 + 1 + 1 + (cntR a4 : Int) + 1 + 1)),.sl (mkR mt a8 (k + 1 + 1 + 1 + 1 + (cntR a4 : Int) + 1 + 1 + 1))] := by simp only [mkL,mkD,cntD,Int.natCast_one]
  have ek : k + ((cntL [.int a0,.int a1,.int a2,.str a3,.sl a4,.int a5,.int a6,.str a7,.sl a8] : Nat) : Int) = k + 1 + 1 + 1 + 1 + (cntR a4 : Int) + 1 + 1 + 1 + (cntR a8 : Int) := by simp only [cntL,cntD]; omega
  rw [em]
  rw [ek] at hb ⊢
  have w0 : IntKind.i64.wrap (k + 1) = k + 1 := wrap_k (by omega) (by omega)
  have w1 : IntKind.i64.wrap (k + 1 + 1) = k + 1 + 1 := wrap_k (by omega) (by omega)
  have w2 : IntKind.i64.wrap (k + 1 + 1 + 1) = k + 1 + 1 + 1 := wrap_k (by omega) (by omega)
  have t3 := mt_ok (k := k + 1 + 1 + 1) (by omega) (by omega)
  have w3 : IntKind.i64.wrap (k + 1 + 1 + 1 + 1) = k + 1 + 1 + 1 + 1 := wrap_k (by omega) (by omega)
  have s4 := m112_1 _ a4 (Nat.lt_succ_self _) b4 c4 (k + 1 + 1 + 1 + 1) (by omega) (by omega)
  skip
  have w5 : IntKind.i64.wrap (k + 1 + 1 + 1 + 1 + (cntR a4 : Int) + 1) = k + 1 + 1 + 1 + 1 + (cntR a4 : Int) + 1 := wrap_k (by omega) (by omega)
  have w6 : IntKind.i64.wrap (k + 1 + 1 + 1 + 1 + (cntR a4 : Int) + 1 + 1) = k + 1 + 1 + 1 + 1 + (cntR a4 : Int) + 1 + 1 := wrap_k (by omega) (by omega)
  have t7 := mt_ok (k := k + 1 + 1 + 1 + 1 + (cntR a4 : Int) + 1 + 1) (by omega) (by omega)
  have w7 : IntKind.i64.wrap (k + 1 + 1 + 1 + 1 + (cntR a4 : Int) + 1 + 1 + 1) = k + 1 + 1 + 1 + 1 + (cntR a4 : Int) + 1 + 1 + 1 := wrap_k (by omega) (by omega)
  have s8 := m112_1 _ a8 (Nat.lt_succ_self _) b8 c8 (k + 1 + 1 + 1 + 1 + (cntR a4 : Int) + 1 + 1 + 1) (by omega) (by omega)
  skip
  rw [e180_1_1]
  simp only [Int.toNat_natCast,over_row_two hiy,over_row_at hiy,over_row_len hiy,hyl,hy,inbN,hi,decide_true,cond_true,Int.ofNat_lt,over,nth,List.getD_cons_zero,List.getD_cons_succ,D.I,D.S,D.L,D.B,w0,w1,w2,t3,w3,s4,w5,w6,t7,w7,s8,Option.bind_some,wrap_succ hi hl]) (fun k y hyl => by
  rw [e180_1_1]
  simp [hyl])
 rw [Int.natCast_zero] at hf
 simp only [hf,Option.bind_some,Nat.beq_refl,cond_true,nth,List.getD_cons_zero,List.getD_cons_succ,D.I,D.S,D.L,D.B]
theorem m110_1 {rs : Rows} (hl : rs.length <= maxLen) (hW : WRs H rs L205) {k : Int} (hk : 0 < k) (hb : k + cntR rs <= BK) : rn ⟨110,1,0⟩ [.int k,.sl rs] = some (0,[.int (k + cntR rs),.sl (mkR mt rs k)]) := by
 show rn ⟨110,1,0⟩ _ = _
 rw [e110_1_0]
 have hf := mark_loop (mt := mt) (F := fun i k y => rn ⟨110,1,1⟩ [.int k,.int (i : Int),.sl y]) (rs := rs) hk hb (fun i hi k y hyl hy hk hb => by
  have hw := WRs_mem hW (List.getElem_mem hi)
  obtain ⟨a0,a1,a2,a3,a4,a5,a6,a7,a8,a9,hr,b0,b3,b4,c4,b7,b8,c8,b9,c9⟩ := wl205 hw
  have hiy : i < y.length := by omega
  rw [hr] at hy hb ⊢
  have em : mkL mt [.str a0,.int a1,.int a2,.str a3,.sl a4,.int a5,.int a6,.str a7,.sl a8,.sl a9] k = [.str (mt (k)),.int (k + 1),.int (k + 1 + 1),.str (mt (k + 1 + 1 + 1)),.sl (mkR mt a4 (k + 1 + 1 + 1 + 1)),.int (k + 1 + 1 + 1 + 1 + (cntR a4 : Int)),.int (k + 1 + 1 + 1 + 1 + (cntR a4 : Int) + 1),.str (mt (k + 1 + 1 + 1 + 1 + (cntR a4 : Int) + 1 + 1)),.sl (mkR mt a8 (k + 1 + 1 + 1 + 1 + (cntR a4 : Int) + 1 + 1 + 1)),.sl (mkR mt a9 (k + 1 + 1 + 1 + 1 + (cntR a4 : Int) + 1 + 1 + 1 + (cntR a8 : Int)))] := by simp only [mkL,mkD,cntD,Int.natCast_one]
  have ek : k + ((cntL [.str a0,.int a1,.int a2,.str a3,.sl a4,.int a5,.int a6,.str a7,.sl a8,.sl a9] : Nat) : Int) = k + 1 + 1 + 1 + 1 + (cntR a4 : Int) + 1 + 1 + 1 + (cntR a8 : Int) + (cntR a9 : Int) := by simp only [cntL,cntD]; omega
  rw [em]
  rw [ek] at hb ⊢
  have t0 := mt_ok (k := k) (by omega) (by omega)
  have w0 : IntKind.i64.wrap (k + 1) = k + 1 := wrap_k (by omega) (by omega)
  have w1 : IntKind.i64.wrap (k + 1 + 1) = k + 1 + 1 := wrap_k (by omega) (by omega)
  have w2 : IntKind.i64.wrap (k + 1 + 1 + 1) = k + 1 + 1 + 1 := wrap_k (by omega) (by omega)
  have t3 := mt_ok (k := k + 1 + 1 + 1) (by omega) (by omega)
  have w3 : IntKind.i64.wrap (k + 1 + 1 + 1 + 1) = k + 1 + 1 + 1 + 1 := wrap_k (by omega) (by omega)
  have s4 := m112_1 _ a4 (Nat.lt_succ_self _) b4 c4 (k + 1 + 1 + 1 + 1) (by omega) (by omega)
  skip
  have w5 : IntKind.i64.wrap (k + 1 + 1 + 1 + 1 + (cntR a4 : Int) + 1) = k + 1 + 1 + 1 + 1 + (cntR a4 : Int) + 1 := wrap_k (by omega) (by omega)
  have w6 : IntKind.i64.wrap (k + 1 + 1 + 1 + 1 + (cntR a4 : Int) + 1 + 1) = k + 1 + 1 + 1 + 1 + (cntR a4 : Int) + 1 + 1 := wrap_k (by omega) (by omega)
  have t7 := mt_ok (k := k + 1 + 1 + 1 + 1 + (cntR a4 : Int) + 1 + 1) (by omega) (by omega)
  have w7 : IntKind.i64.wrap (k + 1 + 1 + 1 + 1 + (cntR a4 : Int) + 1 + 1 + 1) = k + 1 + 1 + 1 + 1 + (cntR a4 : Int) + 1 + 1 + 1 := wrap_k (by omega) (by omega)
  have s8 := m112_1 _ a8 (Nat.lt_succ_self _) b8 c8 (k + 1 + 1 + 1 + 1 + (cntR a4 : Int) + 1 + 1 + 1) (by omega) (by omega)
  skip
  have s9 := m180_1 (k := k + 1 + 1 + 1 + 1 + (cntR a4 : Int) + 1 + 1 + 1 + (cntR a8 : Int)) b9 c9 (by omega) (by omega)
  skip
  rw [e110_1_1]
  simp only [Int.toNat_natCast,over_row_two hiy,over_row_at hiy,over_row_len hiy,hyl,hy,inbN,hi,decide_true,cond_true,Int.ofNat_lt,over,nth,List.getD_cons_zero,List.getD_cons_succ,D.I,D.S,D.L,D.B,t0,w0,w1,w2,t3,w3,s4,w5,w6,t7,w7,s8,s9,Option.bind_some,wrap_succ hi hl]) (fun k y hyl => by
  rw [e110_1_1]
  simp [hyl])
 rw [Int.natCast_zero] at hf
 simp only [hf,Option.bind_some,Nat.beq_refl,cond_true,nth,List.getD_cons_zero,List.getD_cons_succ,D.I,D.S,D.L,D.B]
theorem m111_1 {rs : Rows} (hl : rs.length <= maxLen) (hW : WRs H rs L207) {k : Int} (hk : 0 < k) (hb : k + cntR rs <= BK) : rn ⟨111,1,0⟩ [.int k,.sl rs] = some (0,[.int (k + cntR rs),.sl (mkR mt rs k)]) := by
 show rn ⟨111,1,0⟩ _ = _
 rw [e111_1_0]
 have hf := mark_loop (mt := mt) (F := fun i k y => rn ⟨111,1,1⟩ [.int k,.int (i : Int),.sl y]) (rs := rs) hk hb (fun i hi k y hyl hy hk hb => by
  have hw := WRs_mem hW (List.getElem_mem hi)
  obtain ⟨a0,a1,hr,b0⟩ := wl207 hw
  have hiy : i < y.length := by omega
  rw [hr] at hy hb ⊢
  have em : mkL mt [.str a0,.int a1] k = [.str (mt (k)),.int (k + 1)] := by simp only [mkL,mkD,cntD,Int.natCast_one]
  have ek : k + ((cntL [.str a0,.int a1] : Nat) : Int) = k + 1 + 1 := by simp only [cntL,cntD]; omega
  rw [em]
  rw [ek] at hb ⊢
  have t0 := mt_ok (k := k) (by omega) (by omega)
  have w0 : IntKind.i64.wrap (k + 1) = k + 1 := wrap_k (by omega) (by omega)
  have w1 : IntKind.i64.wrap (k + 1 + 1) = k + 1 + 1 := wrap_k (by omega) (by omega)
  rw [e111_1_1]
  simp only [Int.toNat_natCast,over_row_two hiy,over_row_at hiy,over_row_len hiy,hyl,hy,inbN,hi,decide_true,cond_true,Int.ofNat_lt,over,nth,List.getD_cons_zero,List.getD_cons_succ,D.I,D.S,D.L,D.B,t0,w0,w1,Option.bind_some,wrap_succ hi hl]) (fun k y hyl => by
  rw [e111_1_1]
  simp [hyl])
 rw [Int.natCast_zero] at hf
 simp only [hf,Option.bind_some,Nat.beq_refl,cond_true,nth,List.getD_cons_zero,List.getD_cons_succ,D.I,D.S,D.L,D.B]
theorem mT36_1 (a0 : Rows) (a1 : Rows) (a2 : Rows) (a3 : Rows) (h : WL H [.sl a0,.sl a1,.sl a2,.sl a3] L45) {k : Int} (hk : 0 < k) (hb : k + (cntR a0 : Int) + (cntR a1 : Int) + (cntR a2 : Int) + (cntR a3 : Int) <= BK) : rn ⟨36,1,0⟩ [.int k,.sl a0,.sl a1,.sl a2,.sl a3] = some (0,[.int (k + (cntR a0 : Int) + (cntR a1 : Int) + (cntR a2 : Int) + (cntR a3 : Int)),.sl (mkR mt a0 (k)),.sl (mkR mt a1 (k + (cntR a0 : Int))),.sl (mkR mt a2 (k + (cntR a0 : Int) + (cntR a1 : Int))),.sl (mkR mt a3 (k + (cntR a0 : Int) + (cntR a1 : Int) + (cntR a2 : Int)))]) := by
 obtain ⟨x0,x1,x2,x3,hh,bx0,cx0,bx1,cx1,bx2,cx2,bx3,cx3⟩ := wl45 h
 simp only [List.cons.injEq,D.int.injEq,D.bool.injEq,D.str.injEq,D.sl.injEq,and_true] at hh
 obtain ⟨rfl,rfl,rfl,rfl⟩ := hh
 have w0 : WL H [.sl a0,.sl a1] L41 := WL.part 0 2 h
 have e0 := mT109_1 a0 a1 w0 (k := k) (by omega) (by omega)
 skip
 have e1 := m110_1 (k := k + (cntR a0 : Int) + (cntR a1 : Int)) bx2 cx2 (by omega) (by omega)
 skip
 have e2 := m111_1 (k := k + (cntR a0 : Int) + (cntR a1 : Int) + (cntR a2 : Int)) bx3 cx3 (by omega) (by omega)
 skip
 show rn ⟨36,1,0⟩ _ = _
 rw [e36_1_0]
 simp only [e0,e1,e2,Option.bind_some,cond_false,nth,List.getD_cons_zero,List.getD_cons_succ,D.I,D.S,D.L,D.B]
theorem m112_2 {rs : Rows} (hl : rs.length <= maxLen) (hW : WRs H rs L49) {k : Int} (hk : 0 < k) (hb : k + cntR rs <= BK) : rn ⟨112,2,0⟩ [.int k,.sl rs] = some (0,[.int (k + cntR rs),.sl (mkR mt rs k)]) := by
 show rn ⟨112,2,0⟩ _ = _
 rw [e112_2_0]
 have hf := mark_loop (mt := mt) (F := fun i k y => rn ⟨112,2,1⟩ [.int k,.int (i : Int),.sl y]) (rs := rs) hk hb (fun i hi k y hyl hy hk hb => by
  have hw := WRs_mem hW (List.getElem_mem hi)
  obtain ⟨a0,a1,a2,a3,hr,b2,b3,c3⟩ := wl49 hw
  have hiy : i < y.length := by omega
  rw [hr] at hy hb ⊢
  have em : mkL mt [.int a0,.int a1,.str a2,.sl a3] k = [.int (k),.int (k + 1),.str (mt (k + 1 + 1)),.sl (mkR mt a3 (k + 1 + 1 + 1))] := by simp only [mkL,mkD,cntD,Int.natCast_one]
  have ek : k + ((cntL [.int a0,.int a1,.str a2,.sl a3] : Nat) : Int) = k + 1 + 1 + 1 + (cntR a3 : Int) := by simp only [cntL,cntD]; omega
  rw [em]
  rw [ek] at hb ⊢
  have w0 : IntKind.i64.wrap (k + 1) = k + 1 := wrap_k (by omega) (by omega)
  have w1 : IntKind.i64.wrap (k + 1 + 1) = k + 1 + 1 := wrap_k (by omega) (by omega)
  have t2 := mt_ok (k := k + 1 + 1) (by omega) (by omega)
  have w2 : IntKind.i64.wrap (k + 1 + 1 + 1) = k + 1 + 1 + 1 := wrap_k (by omega) (by omega)
  have s3 := m112_1 _ a3 (Nat.lt_succ_self _) b3 c3 (k + 1 + 1 + 1) (by omega) (by omega)
  skip
  rw [e112_2_1]
  simp only [Int.toNat_natCast,over_row_two hiy,over_row_at hiy,over_row_len hiy,hyl,hy,inbN,hi,decide_true,cond_true,Int.ofNat_lt,over,nth,List.getD_cons_zero,List.getD_cons_succ,D.I,D.S,D.L,D.B,w0,w1,t2,w2,s3,Option.bind_some,wrap_succ hi hl]) (fun k y hyl => by
  rw [e112_2_1]
  simp [hyl])
 rw [Int.natCast_zero] at hf
 simp only [hf,Option.bind_some,Nat.beq_refl,cond_true,nth,List.getD_cons_zero,List.getD_cons_succ,D.I,D.S,D.L,D.B]
theorem mT37_1 (a0 : Int) (a1 : Int) (a2 : ByteArray) (a3 : Rows) (h : WL H [.int a0,.int a1,.str a2,.sl a3] L49) {k : Int} (hk : 0 < k) (hb : k + (cntR a3 : Int) <= BK) : rn ⟨37,1,0⟩ [.int a0,.int a1,.str a2,.int k,.sl a3] = some (0,[.int (k + (cntR a3 : Int)),.sl (mkR mt a3 (k))]) := by
 obtain ⟨x0,x1,x2,x3,hh,bx2,bx3,cx3⟩ := wl49 h
 simp only [List.cons.injEq,D.int.injEq,D.bool.injEq,D.str.injEq,D.sl.injEq,and_true] at hh
 obtain ⟨rfl,rfl,rfl,rfl⟩ := hh
 have e0 := m112_2 (k := k) bx3 cx3 (by omega) (by omega)
 skip
 show rn ⟨37,1,0⟩ _ = _
 rw [e37_1_0]
 simp only [e0,Option.bind_some,cond_false,nth,List.getD_cons_zero,List.getD_cons_succ,D.I,D.S,D.L,D.B]
theorem h116_0 : ∀ (N : Nat) (rs : Rows),SizeOf.sizeOf rs < N -> rs.length <= maxLen -> WRs H rs L49 -> ∀ k : Int,0 < k -> k + cntR rs <= BK -> rn ⟨116,0,0⟩ [.sl (mkR mt rs k),.int k] = some (0,[.int (k + cntR rs)])
 | 0,rs,hN,_,_,_,_,_ => absurd hN (Nat.not_lt_zero _)
 | N + 1,rs,hN,hl,hW,k,hk,hb => by
  show rn ⟨116,0,0⟩ _ = _
  rw [e116_0_0]
  have hf := held_loop (mt := mt) (F := fun i k' => rn ⟨116,0,1⟩ [.sl (mkR mt rs k),.int k',.int (i : Int)]) (rs := rs) hk hb (fun i hi k hrow hk hb => by
   have hw := WRs_mem hW (List.getElem_mem hi)
   obtain ⟨a0,a1,a2,a3,hr,b2,b3,c3⟩ := wl49 hw
   rw [hr] at hrow hb ⊢
   have em : mkL mt [.int a0,.int a1,.str a2,.sl a3] k = [.int (k),.int (k + 1),.str (mt (k + 1 + 1)),.sl (mkR mt a3 (k + 1 + 1 + 1))] := by simp only [mkL,mkD,cntD,Int.natCast_one]
   have ek : k + ((cntL [.int a0,.int a1,.str a2,.sl a3] : Nat) : Int) = k + 1 + 1 + 1 + (cntR a3 : Int) := by simp only [cntL,cntD]; omega
   rw [em] at hrow
   rw [ek] at hb ⊢
   have w0 : IntKind.i64.wrap (k + 1) = k + 1 := wrap_k (by omega) (by omega)
   have w1 : IntKind.i64.wrap (k + 1 + 1) = k + 1 + 1 := wrap_k (by omega) (by omega)
   have t2 := mt_ok (k := k + 1 + 1) (by omega) (by omega)
   have w2 : IntKind.i64.wrap (k + 1 + 1 + 1) = k + 1 + 1 + 1 := wrap_k (by omega) (by omega)
   have s3 := h116_0 N a3 (by have h1 := size_row (r := rs[i]) (rs := rs) (List.getElem_mem hi); rw [hr] at h1; simp only [List.cons.sizeOf_spec,D.sl.sizeOf_spec] at h1 hN; omega) b3 c3 (k + 1 + 1 + 1) (by omega) (by omega)
   skip
   have n3 := int_lt_zero (show 0 < k + 1 + 1 + 1 + (cntR a3 : Int) by omega)
   rw [e116_0_1]
   simp only [mkR_len,Int.toNat_natCast,hrow,inbN,hi,decide_true,cond_true,Int.ofNat_lt,Bool.not_true,cond_false,nth,List.getD_cons_zero,List.getD_cons_succ,D.I,D.S,D.L,D.B,w0,w1,t2,w2,s3,n3,Option.bind_some,wrap_succ hi hl]) (fun k' => by
   rw [e116_0_1]
   simp [mkR_len])
  rw [Int.natCast_zero] at hf
  simp only [hf,Option.bind_some,Nat.beq_refl,cond_true,nth,List.getD_cons_zero,List.getD_cons_succ,D.I,D.S,D.L,D.B]
theorem hT42_0 (a0 : Int) (a1 : Int) (a2 : ByteArray) (a3 : Rows) (h : WL H [.int a0,.int a1,.str a2,.sl a3] L49) {k : Int} (hk : 0 < k) (hb : k + (cntR a3 : Int) <= BK) : rn ⟨42,0,0⟩ [.int a0,.int a1,.str a2,.sl (mkR mt a3 (k)),.int k] = some (0,[.int (k + (cntR a3 : Int))]) := by
 obtain ⟨x0,x1,x2,x3,hh,bx2,bx3,cx3⟩ := wl49 h
 simp only [List.cons.injEq,D.int.injEq,D.bool.injEq,D.str.injEq,D.sl.injEq,and_true] at hh
 obtain ⟨rfl,rfl,rfl,rfl⟩ := hh
 have e0 := h116_0 _ a3 (Nat.lt_succ_self _) bx3 cx3 (k) (by omega) (by omega)
 skip
 have n0 := int_lt_zero (show 0 < k + (cntR a3 : Int) by omega)
 show rn ⟨42,0,0⟩ _ = _
 rw [e42_0_0]
 simp only [e0,n0,Option.bind_some,cond_false,nth,List.getD_cons_zero,List.getD_cons_succ,D.I,D.S,D.L,D.B]
theorem m119_1 {rs : Rows} (hl : rs.length <= maxLen) (hW : WRs H rs L3) {k : Int} (hk : 0 < k) (hb : k + cntR rs <= BK) : rn ⟨119,1,0⟩ [.int k,.sl rs] = some (0,[.int (k + cntR rs),.sl (mkR mt rs k)]) := by
 show rn ⟨119,1,0⟩ _ = _
 rw [e119_1_0]
 have hf := mark_loop (mt := mt) (F := fun i k y => rn ⟨119,1,1⟩ [.int k,.int (i : Int),.sl y]) (rs := rs) hk hb (fun i hi k y hyl hy hk hb => by
  have hw := WRs_mem hW (List.getElem_mem hi)
  obtain ⟨a0,hr⟩ := wl3 hw
  have hiy : i < y.length := by omega
  rw [hr] at hy hb ⊢
  have em : mkL mt [.int a0] k = [.int (k)] := by simp only [mkL,mkD,cntD,Int.natCast_one]
  have ek : k + ((cntL [.int a0] : Nat) : Int) = k + 1 := by simp only [cntL,cntD]; omega
  rw [em]
  rw [ek] at hb ⊢
  have w0 : IntKind.i64.wrap (k + 1) = k + 1 := wrap_k (by omega) (by omega)
  rw [e119_1_1]
  simp only [Int.toNat_natCast,over_row_two hiy,over_row_at hiy,over_row_len hiy,hyl,hy,inbN,hi,decide_true,cond_true,Int.ofNat_lt,over,nth,List.getD_cons_zero,List.getD_cons_succ,D.I,D.S,D.L,D.B,w0,Option.bind_some,wrap_succ hi hl]) (fun k y hyl => by
  rw [e119_1_1]
  simp [hyl])
 rw [Int.natCast_zero] at hf
 simp only [hf,Option.bind_some,Nat.beq_refl,cond_true,nth,List.getD_cons_zero,List.getD_cons_succ,D.I,D.S,D.L,D.B]
theorem mT62_1 (a0 : Rows) (a1 : Int) (a2 : Int) (a3 : ByteArray) (a4 : Rows) (a5 : Rows) (h : WL H [.sl a0,.int a1,.int a2,.str a3,.sl a4,.sl a5] L92) {k : Int} (hk : 0 < k) (hb : k + (cntR a0 : Int) + (cntR a4 : Int) + (cntR a5 : Int) <= BK) : rn ⟨62,1,0⟩ [.int a1,.int a2,.str a3,.int k,.sl a0,.sl a4,.sl a5] = some (0,[.int (k + (cntR a0 : Int) + (cntR a4 : Int) + (cntR a5 : Int)),.sl (mkR mt a0 (k)),.sl (mkR mt a4 (k + (cntR a0 : Int))),.sl (mkR mt a5 (k + (cntR a0 : Int) + (cntR a4 : Int)))]) := by
 obtain ⟨x0,x1,x2,x3,x4,x5,hh,bx0,cx0,bx3,bx4,cx4,bx5,cx5⟩ := wl92 h
 simp only [List.cons.injEq,D.int.injEq,D.bool.injEq,D.str.injEq,D.sl.injEq,and_true] at hh
 obtain ⟨rfl,rfl,rfl,rfl,rfl,rfl⟩ := hh
 have e0 := m133_1 (k := k) bx0 cx0 (by omega) (by omega)
 skip
 have w1 : WL H [.int a1,.int a2,.str a3,.sl a4] L49 := WL.part 1 4 h
 have e1 := mT37_1 a1 a2 a3 a4 w1 (k := k + (cntR a0 : Int)) (by omega) (by omega)
 skip
 have e2 := m119_1 (k := k + (cntR a0 : Int) + (cntR a4 : Int)) bx5 cx5 (by omega) (by omega)
 skip
 show rn ⟨62,1,0⟩ _ = _
 rw [e62_1_0]
 simp only [e0,e1,e2,Option.bind_some,cond_false,nth,List.getD_cons_zero,List.getD_cons_succ,D.I,D.S,D.L,D.B]
theorem mT63_1 (a0 : Int) (a1 : Int) (a2 : Int) (a3 : Int) (a4 : ByteArray) (a5 : Rows) (a6 : Int) (a7 : Int) (a8 : ByteArray) (a9 : Rows) (h : WL H [.int a0,.int a1,.int a2,.int a3,.str a4,.sl a5,.int a6,.int a7,.str a8,.sl a9] L103) {k : Int} (hk : 0 < k) (hb : k + (cntR a5 : Int) + (cntR a9 : Int) <= BK) : rn ⟨63,1,0⟩ [.int a0,.int a1,.int a2,.int a3,.str a4,.int a6,.int a7,.str a8,.int k,.sl a5,.sl a9] = some (0,[.int (k + (cntR a5 : Int) + (cntR a9 : Int)),.sl (mkR mt a5 (k)),.sl (mkR mt a9 (k + (cntR a5 : Int)))]) := by
 obtain ⟨x0,x1,x2,x3,x4,x5,x6,x7,x8,x9,hh,bx4,bx5,cx5,bx8,bx9,cx9⟩ := wl103 h
 simp only [List.cons.injEq,D.int.injEq,D.bool.injEq,D.str.injEq,D.sl.injEq,and_true] at hh
 obtain ⟨rfl,rfl,rfl,rfl,rfl,rfl,rfl,rfl,rfl,rfl⟩ := hh
 have w2 : WL H [.int a2,.int a3,.str a4,.sl a5] L49 := WL.part 2 4 h
 have e0 := mT37_1 a2 a3 a4 a5 w2 (k := k) (by omega) (by omega)
 skip
 have w6 : WL H [.int a6,.int a7,.str a8,.sl a9] L49 := WL.part 6 4 h
 have e1 := mT37_1 a6 a7 a8 a9 w6 (k := k + (cntR a5 : Int)) (by omega) (by omega)
 skip
 show rn ⟨63,1,0⟩ _ = _
 rw [e63_1_0]
 simp only [e0,e1,Option.bind_some,cond_false,nth,List.getD_cons_zero,List.getD_cons_succ,D.I,D.S,D.L,D.B]
theorem hT64_0 (a0 : Int) (a1 : Int) (a2 : Int) (a3 : Int) (a4 : ByteArray) (a5 : Rows) (a6 : Int) (a7 : Int) (a8 : ByteArray) (a9 : Rows) (h : WL H [.int a0,.int a1,.int a2,.int a3,.str a4,.sl a5,.int a6,.int a7,.str a8,.sl a9] L103) {k : Int} (hk : 0 < k) (hb : k + (cntR a5 : Int) + (cntR a9 : Int) <= BK) : rn ⟨64,0,0⟩ [.int a0,.int a1,.int a2,.int a3,.str a4,.sl (mkR mt a5 (k)),.int a6,.int a7,.str a8,.sl (mkR mt a9 (k + (cntR a5 : Int))),.int k] = some (0,[.int (k + (cntR a5 : Int) + (cntR a9 : Int))]) := by
 obtain ⟨x0,x1,x2,x3,x4,x5,x6,x7,x8,x9,hh,bx4,bx5,cx5,bx8,bx9,cx9⟩ := wl103 h
 simp only [List.cons.injEq,D.int.injEq,D.bool.injEq,D.str.injEq,D.sl.injEq,and_true] at hh
 obtain ⟨rfl,rfl,rfl,rfl,rfl,rfl,rfl,rfl,rfl,rfl⟩ := hh
 have w2 : WL H [.int a2,.int a3,.str a4,.sl a5] L49 := WL.part 2 4 h
 have e0 := hT42_0 a2 a3 a4 a5 w2 (k := k) (by omega) (by omega)
 skip
 have n0 := int_lt_zero (show 0 < k + (cntR a5 : Int) by omega)
 have w6 : WL H [.int a6,.int a7,.str a8,.sl a9] L49 := WL.part 6 4 h
 have e1 := hT42_0 a6 a7 a8 a9 w6 (k := k + (cntR a5 : Int)) (by omega) (by omega)
 skip
 have n1 := int_lt_zero (show 0 < k + (cntR a5 : Int) + (cntR a9 : Int) by omega)
 show rn ⟨64,0,0⟩ _ = _
 rw [e64_0_0]
 simp only [e0,n0,e1,n1,Option.bind_some,cond_false,nth,List.getD_cons_zero,List.getD_cons_succ,D.I,D.S,D.L,D.B]
end Go.Q.S
