/- The functions of this seat, as that machine runs them. -/
import Derived.Test.YthlngiieofkmiaaGreatM9
import Derived.Test.YthlngiieofkmiaaGreatM12
set_option linter.unusedVariables false
set_option linter.unusedSimpArgs false
/- Definitions and claims out of data. -/
namespace Go.Q.S
open Go Go.Q
theorem list_of {α : Type} (f : α -> List D) (Q : α -> Prop) : ∀ rs : Rows,(∀ r ∈ rs,∃ x,r = f x /\ Q x) -> ∃ xs : List α,rs = xs.map f /\ ∀ x ∈ xs,Q x
 | [],_ => ⟨[],rfl,by simp⟩
 | r :: rs,h => by
  obtain ⟨x,e,hx⟩ := h r (List.mem_cons_self ..)
  obtain ⟨xs,es,hxs⟩ := list_of f Q rs fun r hr => h r (List.mem_cons_of_mem _ hr)
  exact ⟨x :: xs,by rw [e,es]; rfl,fun y hy => by
   rcases List.mem_cons.1 hy with rfl | hy
   · exact hx
   · exact hxs y hy⟩
theorem gub_of {H : Tab} {e : TypeId} {lay : List CT} (hT : TmTy H e lay) {rs : Rows} (h : WRs H rs (.int .i64 :: (lay ++ lay))) (hz : rs.length + szR rs <= 1048576) : ∃ gs : List Gu,rs = gs.map Gu.row /\ ∀ g ∈ gs,GuB g := by
 obtain ⟨gs,e1,h1⟩ := gus_of hT h hz
 exact ⟨gs,e1,fun g hg => by
  obtain ⟨ok,_,_,w1,w2,_⟩ := h1 g hg
  exact ⟨(wt_iff hT _).1 w1,(wt_iff hT _).1 w2,ok.1,ok.2⟩⟩
theorem ops_of {H : Tab} {es : TypeId} {ti : TI} (he : H.ty es = some ti) (hl : ti.lay = [.str]) {rs : Rows} (h : WRs H rs [.str,.sl es,.str]) (hz : szR rs <= 1048576) : ∃ ops : List OpM,rs = ops.map OpM.row /\ ∀ o ∈ ops,o.ok /\ o.n.size <= maxLen := by
 refine list_of OpM.row (fun o => o.ok /\ o.n.size <= maxLen) rs fun r hr => ?_
 have h1 := WRs_mem h hr
 have hs := szR_mem hr
 obtain ⟨n,d1,rfl,hn,h1⟩ := wl_str h1
 obtain ⟨a,d2,rfl,ha,hw,h1⟩ := wl_sl he h1
 obtain ⟨x,d3,rfl,hx,h1⟩ := wl_str h1
 obtain rfl : d3 = [] := by cases d3 with | nil => rfl | cons _ _ => simp [WL] at h1
 rw [hl] at hw
 obtain ⟨ss,rfl⟩ := strs_of' hw
 simp only [szL,D.sz,List.length_map] at hs
 exact ⟨⟨n,ss,x⟩,rfl,by show ss.length <= 1048576; omega,hn⟩
theorem szL_app : ∀ a b : List D,szL (a ++ b) = szL a + szL b
 | [],b => by simp [szL]
 | x :: a,b => by simp only [List.cons_append,szL,szL_app a b]; omega
theorem tm_cut {H : Tab} {e : TypeId} {lay c : List CT} (hT : TmTy H e lay) {ds : List D} (h : WL H ds (lay ++ c)) (hz : szL ds <= 1048576) : ∃ t : Tm,∃ d2,ds = t.row ++ d2 /\ Wt t /\ t.nodes <= 1048577 /\ WL H d2 c /\ szL t.row + szL d2 = szL ds := by
 obtain ⟨ti,hty,hl⟩ := hT.ty
 have hlay := hT.eq
 have h0 := h
 rw [hlay] at h
 simp only [List.cons_append,List.nil_append] at h
 obtain ⟨a0,_,rfl,i0,h⟩ := wl_int h
 obtain ⟨a1,_,rfl,i1,h⟩ := wl_int h
 obtain ⟨a2,_,rfl,i2,h⟩ := wl_str h
 obtain ⟨a3,d2,rfl,i3,i4,h⟩ := wl_sl hty h
 have hs : szL [.int a0,.int a1,.str a2,.sl a3] + szL d2 = szL (.int a0 :: .int a1 :: .str a2 :: .sl a3 :: d2) := by simp only [szL]; omega
 have hw : WL H [.int a0,.int a1,.str a2,.sl a3] lay := by
  rw [hlay]; exact wlc_int i0 (wlc_int i1 (wlc_str i2 (wlc_sl hty i3 i4 wlc_nil)))
 obtain ⟨t,e1,_⟩ := tm_of hT _ _ (Nat.lt_succ_self _) hw (by omega)
 have hn := tm_nodes t
 rw [e1] at hw hs
 refine ⟨t,d2,?_,(wt_iff hT t).1 hw,by omega,h,hs⟩
 rw [<- e1]; rfl
theorem rus_of {H : Tab} {e eg : TypeId} {lay : List CT} {tg : TI} (hT : TmTy H e lay) (he : H.ty eg = some tg) (hl : tg.lay = .int .i64 :: (lay ++ lay)) {rs : Rows} (h : WRs H rs (.str :: (lay ++ (lay ++ [.sl eg])))) (hz : rs.length + szR rs <= 1048576) : ∃ ru : List RuM,rs = ru.map RuM.row /\ ∀ r ∈ ru,RuB r := by
 refine list_of RuM.row RuB rs fun r hr => ?_
 have h1 := WRs_mem h hr
 have hs := szR_mem hr
 obtain ⟨n,d1,rfl,hn,h1⟩ := wl_str h1
 simp only [szL,D.sz] at hs
 obtain ⟨l,d2,rfl,wl,ln,h1,s1⟩ := tm_cut hT h1 (by omega)
 obtain ⟨r,d3,rfl,wr,rn,h1,s2⟩ := tm_cut hT h1 (by omega)
 obtain ⟨g,d4,rfl,hg,hw,h1⟩ := wl_sl he h1
 obtain rfl : d4 = [] := by cases d4 with | nil => rfl | cons _ _ => simp [WL] at h1
 rw [hl] at hw
 simp only [szL,D.sz] at s2
 obtain ⟨gs,rfl,hgs⟩ := gub_of hT hw (by omega)
 rw [List.length_map] at s2
 exact ⟨⟨n,l,r,gs⟩,by rw [Tm.row_eq,Tm.row_eq]; rfl,hn,wl,wr,ln,rn,by show gs.length <= 1048576; omega,hgs⟩
theorem sts_of {H : Tab} {rs : Rows} (h : WRs H rs [.str,.int .i64]) : ∃ st : List StM,rs = st.map StM.row := by
 obtain ⟨st,e,_⟩ := list_of StM.row (fun _ => True) rs fun r hr => by
  have h1 := WRs_mem h hr
  obtain ⟨n,d1,rfl,hn,h1⟩ := wl_str h1
  obtain ⟨a,d2,rfl,ha,h1⟩ := wl_int h1
  obtain rfl : d2 = [] := by cases d2 with | nil => rfl | cons _ _ => simp [WL] at h1
  exact ⟨⟨n,a⟩,rfl,trivial⟩
 exact ⟨st,e⟩
theorem def_of {H : Tab} {e eg es : TypeId} {lay : List CT} {tg ts : TI} (hT : TmTy H e lay) (he : H.ty eg = some tg) (hl : tg.lay = .int .i64 :: (lay ++ lay)) (hes : H.ty es = some ts) (hls : ts.lay = [.str]) {a0 a1 a2 a3 : Rows}
 (h0 : WRs H a0 [.str]) (h1 : WRs H a1 [.str,.sl es,.str]) (h2 : WRs H a2 (.str :: (lay ++ (lay ++ [.sl eg])))) (h3 : WRs H a3 [.str,.int .i64]) (hz : szL [.sl a0,.sl a1,.sl a2,.sl a3] <= 1048576) :
 ∃ d : DfM,a0 = d.so.map sRow /\ a1 = d.op.map OpM.row /\ a2 = d.ru.map RuM.row /\ a3 = d.st.map StM.row /\ DfB d := by
 simp only [szL,D.sz] at hz
 obtain ⟨so,rfl⟩ := strs_of' h0
 obtain ⟨op,rfl,ho⟩ := ops_of hes hls h1 (by omega)
 obtain ⟨ru,rfl,hr⟩ := rus_of hT he hl h2 (by omega)
 obtain ⟨st,rfl⟩ := sts_of h3
 simp only [List.length_map] at hz
 exact ⟨⟨so,op,ru,st⟩,rfl,rfl,rfl,rfl,by show so.length <= 1048576; omega,strs_wrs h0,⟨by show op.length <= 1048576; omega,fun o h => (ho o h).1⟩,fun o h => (ho o h).2,by show ru.length <= 1048576; omega,hr,by show st.length <= 1048576; omega⟩
end Go.Q.S
