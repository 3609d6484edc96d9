/- The functions of this seat, as that machine runs them, part 2. -/
import Derived.Test.YtlgjdfldlafgfaaGreatPA
import Derived.Test.YtlgjdfldlafgfaaGreatMA
import Derived.Test.YtlgjdfldlafgfaaGreatQD
import Derived.Test.YtlgjdfldlafgfaaGreatftX2
import Derived.Test.YtlgjdfldlafgfaaGreatChecked
set_option linter.unusedVariables false
set_option linter.unusedSimpArgs false
open Bool renaming not_true->D8,not_false->K0
open Int renaming toNat_natCast->B8,ofNat_lt->C0,natCast_zero->C3,toNat->O5,eq_ofNat_of_zero_le->T3
open List renaming length_map->B6,drop_eq_getElem_cons->B9,length_cons->C1,getElem_mem->C2,map_cons->C6,length_nil->C7,drop_length->C8,mem_append->D0,drop_zero->D1,mem_singleton->D3,map_nil->D4,map_append->D6,append_assoc->D7,length_append->E0,mem_cons->E4,nil_append->E5,all_eq_true->E6,append_nil->G9,flatMap_cons->K2,take_of_length_le->O4,length_take->Q0,take_append_of_le_length->Q1,flatMap_nil->Q7,not_mem_nil->Q8
open Nat renaming zero_add->D2,lt_irrefl->D5,beq_refl->E1,ble_eq_true_of_le->E7,ble->E9,beq->F1,le_refl->F9,le_trans->G6,zero_le->J9
open Option renaming bind_some->B5,some->C9
section
namespace Go.Q.S
open Go Go.Q Go.Proofs
theorem rCloneX (xs:Rows) (h:xs.length<=274877906944):rn ⟨40,0,0⟩ [.sl xs]=some (0,[.sl xs]):=by
 rw [e40_0_0];have hb:E9 (([]:Rows).length+xs.length) M63=true:=E7 (by unfold M63; simpa using h)
 rw [hb];cases xs with
 | nil=>simp [both]
 | cons x xs=>rfl
theorem r51 (l:List Stp) (hl:l.length<=1048576) (hp:∀ x∈l,x.2.length<=1048576):rn ⟨51,0,0⟩ [.sl (l.map rdRow)]=some (0,[.sl (l.map rdRow)]):=by
 have hf:=map_loop (F:=fun i acc=>rn ⟨51,0,1⟩ [.sl (l.map rdRow),.int (i:Int),.sl acc]) (xs:=l) rdRow (K:=fun acc=>some (0,[.sl acc])) (fun i hi acc ha=>by
  have hb1:E9 l[i].2.length M63=true:=E7 (show _<=274877906944 by have:=hp _ (C2 hi); omega)
  have hb2:E9 (acc.length+1) M63=true:=nb (by omega)
  rw [e51_0_1];simp only [B6,C0,hi,H3,H1,inbN,B8,rowAt_map hi,wrap_succ hi (maxB (by omega)),rdRow,nv0,nvS,dvI,dvB,dvS,dvL,B5,C1,C7,D2,E5,hb1,hb2]) (fun acc=>by
  rw [e51_0_1];simp)
 simp only [C3] at hf;rw [e51_0_0];simp only [hf,nv0,nvS,dvI,dvB,dvS,dvL,B5,E1,H1,H2]
theorem wlk2 (d:DfM) (hd:DfB d) (v:List ByteArray) (hv:v.length<=1048576) (hvs:∀ x∈v,x.size<=maxLen) (t:Tm) (cl:List Int) (hs:StG d v t cl) (r:Nat) (st:List Stp) (hst:st.length+r<=200) (hsp:∀ x∈st,x.2.length<=60) (F:Option PtF) (hF0:r=0->F=none) (hF1:∀ r',r=r'+1->∃ f,F=some f/\∀ (t':Tm) (cl':List Int) (st':List Stp) (out:List PtM),StG d v t' cl'->st'.length+r'<=200->(∀ x∈st',x.2.length<=60)->out.length<=31->rn ⟨20,2,0⟩ [.sl (d.so.map sRow),.sl (d.op.map OpM.row),.sl (d.ru.map RuM.row),.sl (d.st.map StM.row),.sl (v.map sRow),.int t'.k,.int t'.n,.str t'.s,.sl (t'.as.map Tm.row),.sl (cl'.map iRow),.int (r':Int),.sl (st'.map rdRow),.sl (out.map (PtM.row v))]=some (0,[.sl (((out++f t' cl' st').take 31).map (PtM.row v))])) (L:List (Bk × List Int)) (hL:L=brF d v t cl []):∀ n i (out:List PtM),i+n=L.length->out.length<=31 →
 rn ⟨20,2,1⟩ [.int (r:Int),.sl (st.map rdRow),.int (i:Int),.sl (out.map (PtM.row v)),.sl (d.so.map sRow),.sl (d.op.map OpM.row),.sl (d.ru.map RuM.row),.sl (d.st.map StM.row),.sl (v.map sRow),.int t.k,.int t.n,.str t.s,.sl (t.as.map Tm.row),.sl (cl.map iRow),.sl (L.map (brRow d v t))]=some (0,[.sl (((out++(L.drop i).flatMap (pthB d t st F)).take 31).map (PtM.row v))]):=by
 have hall:=brF_all hd hs;rw [<- hL] at hall;obtain ⟨hLl,hall⟩:=hall;have hnx:∀ b∈L,bK d t b.1=2->StG d v (bT d t b.1) b.2:=fun b hb hk=>hs.next hd (hL▸hb) hk
 clear hL;have hsm:=small_of t (by have:=hs.n; omega)
 have hcp:=r50 t hsm;have hss:=r51 st (by omega) (fun x hx=>by have:=hsp x hx; omega)
 intro n;induction n with
 | zero =>
  intro i out hi ho;obtain rfl:i=L.length:=by omega
  rw [e20_2_1];simp only [B6,C0,D5,H4,H2,C8,Q7,G9];rw [O4 ho]
 | succ n ih =>
  intro i out hi ho;have hlt:i<L.length:=by omega
  have hbm:=C2 hlt;rw [B9 hlt,K2,e20_2_1];rcases hb:L[i] with ⟨bk,cc⟩
  rw [hb] at hbm;obtain ⟨hk,hc,_⟩:=hall _ hbm;by_cases h31:out.length=31
  · have e:¬((out.length:Int)<=30):=by omega
    simp only [B6,C0,hlt,H3,H1,e,H4,H2];rw [Q1 (by omega),O4 ho]
  have e:((out.length:Int)<=30):=by omega
  have b1:E9 (out.length+1) M63=true:=b63 (by omega)
  have bv:E9 v.length M63=true:=E7 (show _<=274877906944 by omega)
  have bc:E9 cc.length M63=true:=E7 (show _<=274877906944 by simp only at hc; omega)
  have hone:∀ k:Int,rn ⟨20,2,1⟩ [.int (r:Int),.sl (st.map rdRow),.int ((i+1:Nat):Int),.sl (out.map (PtM.row v)++[[.int k,.sl (st.map rdRow),.sl (v.map sRow),.int t.k,.int t.n,.str t.s,.sl (t.as.map Tm.row),.sl (cc.map iRow)]]),.sl (d.so.map sRow),.sl (d.op.map OpM.row),.sl (d.ru.map RuM.row),.sl (d.st.map StM.row),.sl (v.map sRow),.int t.k,.int t.n,.str t.s,.sl (t.as.map Tm.row),.sl (cl.map iRow),.sl (L.map (brRow d v t))]=some (0,[.sl (((out++([(⟨k,st,t,cc⟩:PtM)]++(L.drop (i+1)).flatMap (pthB d t st F))).take 31).map (PtM.row v))]):=fun k=>by
   have h:=ih (i+1) (out++[(⟨k,st,t,cc⟩:PtM)]) (by omega) (by rw [E0]; simp only [C1,C7]; omega)
   rw [D7,D6] at h;exact h
  simp only [B6,C0,hlt,H3,H1,inbN,B8,rowAt_map hlt,wrap_succ hlt (maxB (by omega)),hb,e,brRow,nv0,nvS,dvI,dvB,dvS,dvL,B5,C1,C7,D2,bv,bc,hcp,hss,E5,b1]
  cases bk with
  | none=>exact hone 1
  | some y =>
   have hp:=(hk.i y rfl).2.1;cases hvd:(carT d t y).valid with
   | false =>
    have hk3:bK d t (some y)=3:=by show (if (carT d t y).valid=true then (2:Int) else 3)=3; rw [H6 (by rw [hvd]; simp)]
    have eB:pthB d t st F (some y,cc)=[⟨3,st,t,cc⟩]:=by unfold pthB; simp only [hvd]; rw [H6 (by simp)]
    rw [eB,hk3];exact hone 3
   | true =>
    have hk2:bK d t (some y)=2:=by show (if (carT d t y).valid=true then (2:Int) else 3)=2; rw [H5 hvd]
    have hT2:bT d t (some y)=carT d t y:=by show (if (carT d t y).valid=true then carT d t y else tm0)=_; rw [H5 hvd]
    have hst2:=hnx _ hbm hk2;simp only [hT2] at hst2;simp only [hk2,hT2,show ¬((2:Int)=1) by decide,show ¬((2:Int)=3) by decide,H4,H2]
    cases r with
    | zero =>
     have eB:pthB d t st F (some y,cc)=[⟨2,st,t,cc⟩]:=by unfold pthB; rw [hF0 rfl]; simp only [hvd]; rw [H5 trivial]
     rw [eB];exact hone 2
    | succ r' =>
     obtain ⟨f,hf,hcall⟩:=hF1 r' rfl;have eB:pthB d t st F (some y,cc)=f (carT d t y) cc (st++[y]):=by unfold pthB; rw [hf]; simp only [hvd]; rw [H5 trivial]
     have er:¬(((r'+1:Nat):Int)=0):=by omega
     have ew:IntKind.i64.wrap (((r'+1:Nat):Int)-1)=(r':Int):=by rw [IntWalk.i64_in _ (by omega)]; omega
     have b2:E9 (st.length+1) M63=true:=b63 (by omega)
     have e2:st.map rdRow++[[.int (bR (some y)),.sl ((bP (some y)).map iRow)]]=(st++[y]).map rdRow:=by rw [D6]; rfl
     have h1:=hcall (carT d t y) cc (st++[y]) out hst2 (by rw [E0]; simp only [C1,C7]; omega) (fun x hx=>by
      rcases D0.1 hx with hx | hx
      · exact hsp x hx
      · rw [D3.1 hx]; exact hp) ho
     have h2:=ih (i+1) ((out++f (carT d t y) cc (st++[y])).take 31) (by omega) (by rw [Q0]; omega)
     simp only [er,H4,H2,b2,H1,e2,ew,h1,B5,nv0,dvL,h2,eB];rw [tk_app,D7]
theorem wkA2 (d:DfM) (hd:DfB d) (v:List ByteArray) (hv:v.length<=1048576) (hvs:∀ x∈v,x.size<=maxLen):∀ (r:Nat) (t:Tm) (cl:List Int) (st:List Stp) (out:List PtM),StG d v t cl->st.length+r<=200->(∀ x∈st,x.2.length<=60)->out.length<=31->rn ⟨20,2,0⟩ [.sl (d.so.map sRow),.sl (d.op.map OpM.row),.sl (d.ru.map RuM.row),.sl (d.st.map StM.row),.sl (v.map sRow),.int t.k,.int t.n,.str t.s,.sl (t.as.map Tm.row),.sl (cl.map iRow),.int (r:Int),.sl (st.map rdRow),.sl (out.map (PtM.row v))]=some (0,[.sl (((out++pth d v r t cl st).take 31).map (PtM.row v))]):=by
 intro r;induction r with
 | zero =>
  intro t cl st out hs hst hsp ho;obtain ⟨s1,s2,s3⟩:=hs.sy2 hd hv hvs;have h1:=r49 _ s1;rw [s3] at h1;unfold SyM.row at h1;simp only at h1;have h2:=wlk2 d hd v hv hvs t cl hs 0 st hst hsp none (fun _=>rfl) (fun r' h=>by omega) _ rfl _ 0 out (D2 _) ho
  simp only [C3,D1] at h2;rw [e20_2_0];simp only [C3,h1,nv0,nvS,dvI,dvB,dvS,dvL,B5,h2,E1,H1,H2,pth]
 | succ r ih =>
  intro t cl st out hs hst hsp ho;obtain ⟨s1,s2,s3⟩:=hs.sy2 hd hv hvs;have h1:=r49 _ s1;rw [s3] at h1;unfold SyM.row at h1;simp only at h1;have h2:=wlk2 d hd v hv hvs t cl hs (r+1) st hst hsp (some (pth d v r)) (fun h=>by omega) (fun r' h=>⟨_,rfl,by
   obtain rfl:r=r':=by omega
   exact ih⟩) _ rfl _ 0 out (D2 _) ho
  simp only [C3,D1] at h2;rw [e20_2_0];simp only [h1,nv0,nvS,dvI,dvB,dvS,dvL,B5,h2,E1,H1,H2,pth]
theorem wlk1 (d:DfM) (hd:DfB d) (v:List ByteArray) (hv:v.length<=1048576) (hvs:∀ x∈v,x.size<=maxLen) (t:Tm) (cl:List Int) (hs:StG d v t cl) (r:Nat) (st:List Stp) (hst:st.length+r<=200) (hsp:∀ x∈st,x.2.length<=60) (F:Option PtF) (hF0:r=0->F=none) (hF1:∀ r',r=r'+1->∃ f,F=some f/\∀ (t':Tm) (cl':List Int) (st':List Stp) (out:List PtM),StG d v t' cl'->st'.length+r'<=200->(∀ x∈st',x.2.length<=60)->out.length<=31->rn ⟨20,2,0⟩ [.sl (d.so.map sRow),.sl (d.op.map OpM.row),.sl (d.ru.map RuM.row),.sl (d.st.map StM.row),.sl (v.map sRow),.int t'.k,.int t'.n,.str t'.s,.sl (t'.as.map Tm.row),.sl (cl'.map iRow),.int (r':Int),.sl (st'.map rdRow),.sl (out.map (PtM.row v))]=some (0,[.sl (((out++f t' cl' st').take 31).map (PtM.row v))])) (L:List (Bk × List Int)) (hL:L=brF d v t cl []):∀ n i (out:List PtM),i+n=L.length->out.length<=31 →
 rn ⟨20,1,1⟩ [.int (r:Int),.sl (st.map rdRow),.int (i:Int),.sl (out.map (PtM.row v)),.sl (d.so.map sRow),.sl (d.op.map OpM.row),.sl (d.ru.map RuM.row),.sl (d.st.map StM.row),.sl (v.map sRow),.int t.k,.int t.n,.str t.s,.sl (t.as.map Tm.row),.sl (cl.map iRow),.sl (L.map (brRow d v t))]=some (0,[.sl (((out++(L.drop i).flatMap (pthB d t st F)).take 31).map (PtM.row v))]):=by
 have hall:=brF_all hd hs;rw [<- hL] at hall;obtain ⟨hLl,hall⟩:=hall;have hnx:∀ b∈L,bK d t b.1=2->StG d v (bT d t b.1) b.2:=fun b hb hk=>hs.next hd (hL▸hb) hk
 clear hL;have hsm:=small_of t (by have:=hs.n; omega)
 have hcp:=r50 t hsm;have hss:=r51 st (by omega) (fun x hx=>by have:=hsp x hx; omega)
 intro n;induction n with
 | zero =>
  intro i out hi ho;obtain rfl:i=L.length:=by omega
  rw [e20_1_1];simp only [B6,C0,D5,H4,H2,C8,Q7,G9];rw [O4 ho]
 | succ n ih =>
  intro i out hi ho;have hlt:i<L.length:=by omega
  have hbm:=C2 hlt;rw [B9 hlt,K2,e20_1_1];rcases hb:L[i] with ⟨bk,cc⟩
  rw [hb] at hbm;obtain ⟨hk,hc,_⟩:=hall _ hbm;by_cases h31:out.length=31
  · have e:¬((out.length:Int)<=30):=by omega
    simp only [B6,C0,hlt,H3,H1,e,H4,H2];rw [Q1 (by omega),O4 ho]
  have e:((out.length:Int)<=30):=by omega
  have b1:E9 (out.length+1) M63=true:=b63 (by omega)
  have bv:E9 v.length M63=true:=E7 (show _<=274877906944 by omega)
  have bc:E9 cc.length M63=true:=E7 (show _<=274877906944 by simp only at hc; omega)
  have hone:∀ k:Int,rn ⟨20,1,1⟩ [.int (r:Int),.sl (st.map rdRow),.int ((i+1:Nat):Int),.sl (out.map (PtM.row v)++[[.int k,.sl (st.map rdRow),.sl (v.map sRow),.int t.k,.int t.n,.str t.s,.sl (t.as.map Tm.row),.sl (cc.map iRow)]]),.sl (d.so.map sRow),.sl (d.op.map OpM.row),.sl (d.ru.map RuM.row),.sl (d.st.map StM.row),.sl (v.map sRow),.int t.k,.int t.n,.str t.s,.sl (t.as.map Tm.row),.sl (cl.map iRow),.sl (L.map (brRow d v t))]=some (0,[.sl (((out++([(⟨k,st,t,cc⟩:PtM)]++(L.drop (i+1)).flatMap (pthB d t st F))).take 31).map (PtM.row v))]):=fun k=>by
   have h:=ih (i+1) (out++[(⟨k,st,t,cc⟩:PtM)]) (by omega) (by rw [E0]; simp only [C1,C7]; omega)
   rw [D7,D6] at h;exact h
  simp only [B6,C0,hlt,H3,H1,inbN,B8,rowAt_map hlt,wrap_succ hlt (maxB (by omega)),hb,e,brRow,nv0,nvS,dvI,dvB,dvS,dvL,B5,C1,C7,D2,bv,bc,hcp,hss,E5,b1]
  cases bk with
  | none=>exact hone 1
  | some y =>
   have hp:=(hk.i y rfl).2.1;cases hvd:(carT d t y).valid with
   | false =>
    have hk3:bK d t (some y)=3:=by show (if (carT d t y).valid=true then (2:Int) else 3)=3; rw [H6 (by rw [hvd]; simp)]
    have eB:pthB d t st F (some y,cc)=[⟨3,st,t,cc⟩]:=by unfold pthB; simp only [hvd]; rw [H6 (by simp)]
    rw [eB,hk3];exact hone 3
   | true =>
    have hk2:bK d t (some y)=2:=by show (if (carT d t y).valid=true then (2:Int) else 3)=2; rw [H5 hvd]
    have hT2:bT d t (some y)=carT d t y:=by show (if (carT d t y).valid=true then carT d t y else tm0)=_; rw [H5 hvd]
    have hst2:=hnx _ hbm hk2;simp only [hT2] at hst2;simp only [hk2,hT2,show ¬((2:Int)=1) by decide,show ¬((2:Int)=3) by decide,H4,H2]
    cases r with
    | zero =>
     have eB:pthB d t st F (some y,cc)=[⟨2,st,t,cc⟩]:=by unfold pthB; rw [hF0 rfl]; simp only [hvd]; rw [H5 trivial]
     rw [eB];exact hone 2
    | succ r' =>
     obtain ⟨f,hf,hcall⟩:=hF1 r' rfl;have eB:pthB d t st F (some y,cc)=f (carT d t y) cc (st++[y]):=by unfold pthB; rw [hf]; simp only [hvd]; rw [H5 trivial]
     have er:¬(((r'+1:Nat):Int)=0):=by omega
     have ew:IntKind.i64.wrap (((r'+1:Nat):Int)-1)=(r':Int):=by rw [IntWalk.i64_in _ (by omega)]; omega
     have b2:E9 (st.length+1) M63=true:=b63 (by omega)
     have e2:st.map rdRow++[[.int (bR (some y)),.sl ((bP (some y)).map iRow)]]=(st++[y]).map rdRow:=by rw [D6]; rfl
     have h1:=hcall (carT d t y) cc (st++[y]) out hst2 (by rw [E0]; simp only [C1,C7]; omega) (fun x hx=>by
      rcases D0.1 hx with hx | hx
      · exact hsp x hx
      · rw [D3.1 hx]; exact hp) ho
     have h2:=ih (i+1) ((out++f (carT d t y) cc (st++[y])).take 31) (by omega) (by rw [Q0]; omega)
     simp only [er,H4,H2,b2,H1,e2,ew,h1,B5,nv0,dvL,h2,eB];rw [tk_app,D7]
theorem wkA1 (d:DfM) (hd:DfB d) (v:List ByteArray) (hv:v.length<=1048576) (hvs:∀ x∈v,x.size<=maxLen):∀ (r:Nat) (t:Tm) (cl:List Int) (st:List Stp) (out:List PtM),StG d v t cl->st.length+r<=200->(∀ x∈st,x.2.length<=60)->out.length<=31->rn ⟨20,1,0⟩ [.sl (d.so.map sRow),.sl (d.op.map OpM.row),.sl (d.ru.map RuM.row),.sl (d.st.map StM.row),.sl (v.map sRow),.int t.k,.int t.n,.str t.s,.sl (t.as.map Tm.row),.sl (cl.map iRow),.int (r:Int),.sl (st.map rdRow),.sl (out.map (PtM.row v))]=some (0,[.sl (((out++pth d v r t cl st).take 31).map (PtM.row v))]):=by
 intro r;induction r with
 | zero =>
  intro t cl st out hs hst hsp ho;obtain ⟨s1,s2,s3⟩:=hs.sy2 hd hv hvs;have h1:=r49 _ s1;rw [s3] at h1;unfold SyM.row at h1;simp only at h1;have h2:=wlk1 d hd v hv hvs t cl hs 0 st hst hsp none (fun _=>rfl) (fun r' h=>by omega) _ rfl _ 0 out (D2 _) ho
  simp only [C3,D1] at h2;rw [e20_1_0];simp only [C3,h1,nv0,nvS,dvI,dvB,dvS,dvL,B5,h2,E1,H1,H2,pth]
 | succ r ih =>
  intro t cl st out hs hst hsp ho;obtain ⟨s1,s2,s3⟩:=hs.sy2 hd hv hvs;have h1:=r49 _ s1;rw [s3] at h1;unfold SyM.row at h1;simp only at h1;have h2:=wlk1 d hd v hv hvs t cl hs (r+1) st hst hsp (some (pth d v r)) (fun h=>by omega) (fun r' h=>⟨_,rfl,by
   obtain rfl:r=r':=by omega
   exact wkA2 d hd v hv hvs r⟩) _ rfl _ 0 out (D2 _) ho
  simp only [C3,D1] at h2;rw [e20_1_0];simp only [h1,nv0,nvS,dvI,dvB,dvS,dvL,B5,h2,E1,H1,H2,pth]
theorem ptl2 (d:DfM) (hd:DfB d) (v:List ByteArray) (hv:v.length<=1048576) (hvs:∀ x∈v,x.size<=maxLen) (t:Tm) (cl:List Int) (hs:StG d v t cl) (r:Nat) (st:List Stp) (hst:st.length+r<=200) (hsp:∀ x∈st,x.2.length<=60) (F:Option PtF) (hF0:r=0->F=none) (hF1:∀ r',r=r'+1->∃ f,F=some f/\∀ (t':Tm) (cl':List Int) (st':List Stp) (out:List PtM),StG d v t' cl'->st'.length+r'<=200->(∀ x∈st',x.2.length<=60)->out.length<=30->∃ X:Rows,rn ⟨17,1,0⟩ [.sl (d.so.map sRow),.sl (d.op.map OpM.row),.sl (d.ru.map RuM.row),.sl (d.st.map StM.row),.sl (v.map sRow),.int t'.k,.int t'.n,.str t'.s,.sl (t'.as.map Tm.row),.sl (cl'.map iRow),.sl (st'.map rdRow),.int (r':Int),.sl (out.map (PtM.row v))]=if (out++f t' cl' st').length<=30 then some (0,[.bool true,.sl ((out++f t' cl' st').map (PtM.row v))]) else some (0,[.bool false,.sl X])) (L:List (Bk × List Int)) (hL:L=brF d v t cl []):∀ n i (out:List PtM),i+n=L.length->out.length<=30 →
 ∃ X:Rows,rn ⟨17,1,1⟩ [.sl (st.map rdRow),.int (r:Int),.int (L.length:Int),.int (i:Int),.sl (d.so.map sRow),.sl (d.op.map OpM.row),.sl (d.ru.map RuM.row),.sl (d.st.map StM.row),.sl (v.map sRow),.int t.k,.int t.n,.str t.s,.sl (t.as.map Tm.row),.sl (cl.map iRow),.sl (L.map (brRow d v t)),.sl (out.map (PtM.row v))]=if (out++(L.drop i).flatMap (pthB d t st F)).length<=30 then some (0,[.sl ((out++(L.drop i).flatMap (pthB d t st F)).map (PtM.row v))]) else some (1,[.sl X]):=by
 have hall:=brF_all hd hs;rw [<- hL] at hall;obtain ⟨hLl,hall⟩:=hall;have hnx:∀ b∈L,bK d t b.1=2->StG d v (bT d t b.1) b.2:=fun b hb hk=>hs.next hd (hL▸hb) hk
 clear hL;have hsm:=small_of t (by have:=hs.n; omega)
 have hss:=r41 st (by omega) (fun x hx=>by have:=hsp x hx; omega)
 have hcx:=rCloneX (st.map rdRow) (by rw [B6]; omega)
 intro n;induction n with
 | zero =>
  intro i out hi ho;obtain rfl:i=L.length:=by omega
  refine ⟨[],?_⟩;rw [e17_1_1];simp only [B6,C0,D5,H4,H2,C8,Q7,G9];rw [H5 ho]
 | succ n ih =>
  intro i out hi ho;have hlt:i<L.length:=by omega
  have hbm:=C2 hlt;rw [B9 hlt,K2,e17_1_1];rcases hb:L[i] with ⟨bk,cc⟩
  rw [hb] at hbm;obtain ⟨hk,hc,_⟩:=hall _ hbm;have b1:E9 (out.length+1) M63=true:=b63 (by omega)
  have hwc:=r39 (v.map sRow) (cl.map iRow) (cc.map iRow) t hsm (by rw [B6]; omega) (by rw [B6]; simp only at hc; omega)
  have hone:∀ k:Int,∃ X:Rows,(bif decide ((out.length:Int)=30) then (some (1,[.sl (out.map (PtM.row v))]):R) else rn ⟨17,1,1⟩ [.sl (st.map rdRow),.int (r:Int),.int (L.length:Int),.int ((i+1:Nat):Int),.sl (d.so.map sRow),.sl (d.op.map OpM.row),.sl (d.ru.map RuM.row),.sl (d.st.map StM.row),.sl (v.map sRow),.int t.k,.int t.n,.str t.s,.sl (t.as.map Tm.row),.sl (cl.map iRow),.sl (L.map (brRow d v t)),.sl (out.map (PtM.row v)++[[.int k,.sl (st.map rdRow),.sl (v.map sRow),.int t.k,.int t.n,.str t.s,.sl (t.as.map Tm.row),.sl (cc.map iRow)]])])=if (out++([(⟨k,st,t,cc⟩:PtM)]++(L.drop (i+1)).flatMap (pthB d t st F))).length<=30 then some (0,[.sl ((out++([(⟨k,st,t,cc⟩:PtM)]++(L.drop (i+1)).flatMap (pthB d t st F))).map (PtM.row v))]) else some (1,[.sl X]):=fun k=>by
   by_cases h30:out.length=30
   · refine ⟨out.map (PtM.row v),?_⟩
     rw [H7 (show ((out.length:Int)=30) by omega),H6 (by rw [E0,E0]; simp only [C1,C7]; omega)]; rfl
   · obtain ⟨X,h⟩:=ih (i+1) (out++[(⟨k,st,t,cc⟩:PtM)]) (by omega) (by rw [E0]; simp only [C1,C7]; omega)
     refine ⟨X,?_⟩;rw [H8 (show ¬((out.length:Int)=30) by omega)]
     rw [D7,D6] at h;exact h
  simp only [B6,C0,hlt,H3,H1,inbN,B8,rowAt_map hlt,wrap_succ hlt (maxB (by omega)),hb,brRow,nv0,nvS,dvI,dvB,dvS,dvL,B5,C1,C7,D2,hwc,hss,hcx,b1]
  cases bk with
  | none =>
   obtain ⟨X,h⟩:=hone 1;exact ⟨X,h⟩
  | some y =>
   have hp:=(hk.i y rfl).2.1;cases hvd:(carT d t y).valid with
   | false =>
    have hk3:bK d t (some y)=3:=by show (if (carT d t y).valid=true then (2:Int) else 3)=3; rw [H6 (by rw [hvd]; simp)]
    have eB:pthB d t st F (some y,cc)=[⟨3,st,t,cc⟩]:=by unfold pthB; simp only [hvd]; rw [H6 (by simp)]
    rw [eB,hk3];obtain ⟨X,h⟩:=hone 3;exact ⟨X,h⟩
   | true =>
    have hk2:bK d t (some y)=2:=by show (if (carT d t y).valid=true then (2:Int) else 3)=2; rw [H5 hvd]
    have hT2:bT d t (some y)=carT d t y:=by show (if (carT d t y).valid=true then carT d t y else tm0)=_; rw [H5 hvd]
    have hst2:=hnx _ hbm hk2;simp only [hT2] at hst2;simp only [hk2,hT2,show ¬((2:Int)=3) by decide,H4,H2,H3,H1]
    cases r with
    | zero =>
     have eB:pthB d t st F (some y,cc)=[⟨2,st,t,cc⟩]:=by unfold pthB; rw [hF0 rfl]; simp only [hvd]; rw [H5 trivial]
     rw [eB];obtain ⟨X,h⟩:=hone 2;exact ⟨X,h⟩
    | succ r' =>
     obtain ⟨f,hf,hcall⟩:=hF1 r' rfl;have eB:pthB d t st F (some y,cc)=f (carT d t y) cc (st++[y]):=by unfold pthB; rw [hf]; simp only [hvd]; rw [H5 trivial]
     have er:¬(((r'+1:Nat):Int)=0):=by omega
     have ew:IntKind.i64.wrap (((r'+1:Nat):Int)-1)=(r':Int):=by rw [IntWalk.i64_in _ (by omega)]; omega
     have b2:E9 (st.length+1) M63=true:=b63 (by omega)
     have e2:st.map rdRow++[[.int (bR (some y)),.sl ((bP (some y)).map iRow)]]=(st++[y]).map rdRow:=by rw [D6]; rfl
     obtain ⟨X1,h1⟩:=hcall (carT d t y) cc (st++[y]) out hst2 (by rw [E0]; simp only [C1,C7]; omega) (fun x hx=>by
      rcases D0.1 hx with hx | hx
      · exact hsp x hx
      · rw [D3.1 hx]; exact hp) ho
     rw [eB];simp only [er,H4,H2,b2,H1,e2,ew];by_cases hle:(out++f (carT d t y) cc (st++[y])).length<=30
     · obtain ⟨X,h2⟩:=ih (i+1) (out++f (carT d t y) cc (st++[y])) (by omega) hle
       refine ⟨X,?_⟩;rw [H5 hle] at h1;rw [D7] at h2;simp only [h1,nv0,nvS,dvI,dvB,dvS,dvL,B5,D8,H2,h2]
     · refine ⟨X1,?_⟩
       rw [H6 hle] at h1;simp only [h1,nv0,nvS,dvI,dvB,dvS,dvL,B5,K0,H1];rw [H6 (by rw [<- D7,E0]; omega)]
theorem ptA2 (d:DfM) (hd:DfB d) (v:List ByteArray) (hv:v.length<=1048576) (hvs:∀ x∈v,x.size<=maxLen):∀ (r:Nat) (t:Tm) (cl:List Int) (st:List Stp) (out:List PtM),StG d v t cl->st.length+r<=200->(∀ x∈st,x.2.length<=60)->out.length<=30->∃ X:Rows,rn ⟨17,1,0⟩ [.sl (d.so.map sRow),.sl (d.op.map OpM.row),.sl (d.ru.map RuM.row),.sl (d.st.map StM.row),.sl (v.map sRow),.int t.k,.int t.n,.str t.s,.sl (t.as.map Tm.row),.sl (cl.map iRow),.sl (st.map rdRow),.int (r:Int),.sl (out.map (PtM.row v))]=if (out++pth d v r t cl st).length<=30 then some (0,[.bool true,.sl ((out++pth d v r t cl st).map (PtM.row v))]) else some (0,[.bool false,.sl X]):=by
 have one:∀ (r:Nat) (F:Option PtF) (t:Tm) (cl:List Int) (st:List Stp) (out:List PtM) (A:List PtM),StG d v t cl->A=(brF d v t cl []).flatMap (pthB d t st F)->out.length<=30->(∃ X:Rows,rn ⟨17,1,1⟩ [.sl (st.map rdRow),.int (r:Int),.int ((brF d v t cl []).length:Int),.int ((0:Nat):Int),.sl (d.so.map sRow),.sl (d.op.map OpM.row),.sl (d.ru.map RuM.row),.sl (d.st.map StM.row),.sl (v.map sRow),.int t.k,.int t.n,.str t.s,.sl (t.as.map Tm.row),.sl (cl.map iRow),.sl ((brF d v t cl []).map (brRow d v t)),.sl (out.map (PtM.row v))]=if (out++((brF d v t cl []).drop 0).flatMap (pthB d t st F)).length<=30 then some (0,[.sl ((out++((brF d v t cl []).drop 0).flatMap (pthB d t st F)).map (PtM.row v))]) else some (1,[.sl X]))->∃ X:Rows,rn ⟨17,1,0⟩ [.sl (d.so.map sRow),.sl (d.op.map OpM.row),.sl (d.ru.map RuM.row),.sl (d.st.map StM.row),.sl (v.map sRow),.int t.k,.int t.n,.str t.s,.sl (t.as.map Tm.row),.sl (cl.map iRow),.sl (st.map rdRow),.int (r:Int),.sl (out.map (PtM.row v))]=if (out++A).length<=30 then some (0,[.bool true,.sl ((out++A).map (PtM.row v))]) else some (0,[.bool false,.sl X]):=by
  intro r F t cl st out A hs hA ho ⟨X,h2⟩;obtain ⟨s1,s2,s3⟩:=hs.sy2 hd hv hvs;have h1:=r38 _ s1 s2;rw [s3] at h1;unfold SyM.row at h1;simp only at h1;rw [D1,<- hA] at h2;simp only [C3] at h2;refine ⟨X,?_⟩;rw [e17_1_0];simp only [h1,nv0,nvS,dvI,dvB,dvS,dvL,B5,B6,h2];by_cases hle:(out++A).length<=30
  · rw [H5 hle,H5 hle]; rfl
  · rw [H6 hle,H6 hle]; rfl
 intro r;induction r with
 | zero =>
  intro t cl st out hs hst hsp ho;exact one 0 none t cl st out _ hs rfl ho (ptl2 d hd v hv hvs t cl hs 0 st hst hsp none (fun _=>rfl) (fun r' h=>by omega) _ rfl _ 0 out (D2 _) ho)
 | succ r ih =>
  intro t cl st out hs hst hsp ho;exact one (r+1) (some (pth d v r)) t cl st out _ hs rfl ho (ptl2 d hd v hv hvs t cl hs (r+1) st hst hsp (some (pth d v r)) (fun h=>by omega) (fun r' h=>⟨_,rfl,by
   obtain rfl:r=r':=by omega
   exact ih⟩) _ rfl _ 0 out (D2 _) ho)
theorem ptl1 (d:DfM) (hd:DfB d) (v:List ByteArray) (hv:v.length<=1048576) (hvs:∀ x∈v,x.size<=maxLen) (t:Tm) (cl:List Int) (hs:StG d v t cl) (r:Nat) (st:List Stp) (hst:st.length+r<=200) (hsp:∀ x∈st,x.2.length<=60) (F:Option PtF) (hF0:r=0->F=none) (hF1:∀ r',r=r'+1->∃ f,F=some f/\∀ (t':Tm) (cl':List Int) (st':List Stp) (out:List PtM),StG d v t' cl'->st'.length+r'<=200->(∀ x∈st',x.2.length<=60)->out.length<=30->∃ X:Rows,rn ⟨17,1,0⟩ [.sl (d.so.map sRow),.sl (d.op.map OpM.row),.sl (d.ru.map RuM.row),.sl (d.st.map StM.row),.sl (v.map sRow),.int t'.k,.int t'.n,.str t'.s,.sl (t'.as.map Tm.row),.sl (cl'.map iRow),.sl (st'.map rdRow),.int (r':Int),.sl (out.map (PtM.row v))]=if (out++f t' cl' st').length<=30 then some (0,[.bool true,.sl ((out++f t' cl' st').map (PtM.row v))]) else some (0,[.bool false,.sl X])) (L:List (Bk × List Int)) (hL:L=brF d v t cl []):∀ n i (out:List PtM),i+n=L.length->out.length<=30 →
 ∃ X:Rows,rn ⟨17,0,1⟩ [.sl (st.map rdRow),.int (r:Int),.int (L.length:Int),.int (i:Int),.sl (d.so.map sRow),.sl (d.op.map OpM.row),.sl (d.ru.map RuM.row),.sl (d.st.map StM.row),.sl (v.map sRow),.int t.k,.int t.n,.str t.s,.sl (t.as.map Tm.row),.sl (cl.map iRow),.sl (L.map (brRow d v t)),.sl (out.map (PtM.row v))]=if (out++(L.drop i).flatMap (pthB d t st F)).length<=30 then some (0,[.sl ((out++(L.drop i).flatMap (pthB d t st F)).map (PtM.row v))]) else some (1,[.sl X]):=by
 have hall:=brF_all hd hs;rw [<- hL] at hall;obtain ⟨hLl,hall⟩:=hall;have hnx:∀ b∈L,bK d t b.1=2->StG d v (bT d t b.1) b.2:=fun b hb hk=>hs.next hd (hL▸hb) hk
 clear hL;have hsm:=small_of t (by have:=hs.n; omega)
 have hss:=r41 st (by omega) (fun x hx=>by have:=hsp x hx; omega)
 have hcx:=rCloneX (st.map rdRow) (by rw [B6]; omega)
 intro n;induction n with
 | zero =>
  intro i out hi ho;obtain rfl:i=L.length:=by omega
  refine ⟨[],?_⟩;rw [e17_0_1];simp only [B6,C0,D5,H4,H2,C8,Q7,G9];rw [H5 ho]
 | succ n ih =>
  intro i out hi ho;have hlt:i<L.length:=by omega
  have hbm:=C2 hlt;rw [B9 hlt,K2,e17_0_1];rcases hb:L[i] with ⟨bk,cc⟩
  rw [hb] at hbm;obtain ⟨hk,hc,_⟩:=hall _ hbm;have b1:E9 (out.length+1) M63=true:=b63 (by omega)
  have hwc:=r39 (v.map sRow) (cl.map iRow) (cc.map iRow) t hsm (by rw [B6]; omega) (by rw [B6]; simp only at hc; omega)
  have hone:∀ k:Int,∃ X:Rows,(bif decide ((out.length:Int)=30) then (some (1,[.sl (out.map (PtM.row v))]):R) else rn ⟨17,0,1⟩ [.sl (st.map rdRow),.int (r:Int),.int (L.length:Int),.int ((i+1:Nat):Int),.sl (d.so.map sRow),.sl (d.op.map OpM.row),.sl (d.ru.map RuM.row),.sl (d.st.map StM.row),.sl (v.map sRow),.int t.k,.int t.n,.str t.s,.sl (t.as.map Tm.row),.sl (cl.map iRow),.sl (L.map (brRow d v t)),.sl (out.map (PtM.row v)++[[.int k,.sl (st.map rdRow),.sl (v.map sRow),.int t.k,.int t.n,.str t.s,.sl (t.as.map Tm.row),.sl (cc.map iRow)]])])=if (out++([(⟨k,st,t,cc⟩:PtM)]++(L.drop (i+1)).flatMap (pthB d t st F))).length<=30 then some (0,[.sl ((out++([(⟨k,st,t,cc⟩:PtM)]++(L.drop (i+1)).flatMap (pthB d t st F))).map (PtM.row v))]) else some (1,[.sl X]):=fun k=>by
   by_cases h30:out.length=30
   · refine ⟨out.map (PtM.row v),?_⟩
     rw [H7 (show ((out.length:Int)=30) by omega),H6 (by rw [E0,E0]; simp only [C1,C7]; omega)]; rfl
   · obtain ⟨X,h⟩:=ih (i+1) (out++[(⟨k,st,t,cc⟩:PtM)]) (by omega) (by rw [E0]; simp only [C1,C7]; omega)
     refine ⟨X,?_⟩;rw [H8 (show ¬((out.length:Int)=30) by omega)]
     rw [D7,D6] at h;exact h
  simp only [B6,C0,hlt,H3,H1,inbN,B8,rowAt_map hlt,wrap_succ hlt (maxB (by omega)),hb,brRow,nv0,nvS,dvI,dvB,dvS,dvL,B5,C1,C7,D2,hwc,hss,hcx,b1]
  cases bk with
  | none =>
   obtain ⟨X,h⟩:=hone 1;exact ⟨X,h⟩
  | some y =>
   have hp:=(hk.i y rfl).2.1;cases hvd:(carT d t y).valid with
   | false =>
    have hk3:bK d t (some y)=3:=by show (if (carT d t y).valid=true then (2:Int) else 3)=3; rw [H6 (by rw [hvd]; simp)]
    have eB:pthB d t st F (some y,cc)=[⟨3,st,t,cc⟩]:=by unfold pthB; simp only [hvd]; rw [H6 (by simp)]
    rw [eB,hk3];obtain ⟨X,h⟩:=hone 3;exact ⟨X,h⟩
   | true =>
    have hk2:bK d t (some y)=2:=by show (if (carT d t y).valid=true then (2:Int) else 3)=2; rw [H5 hvd]
    have hT2:bT d t (some y)=carT d t y:=by show (if (carT d t y).valid=true then carT d t y else tm0)=_; rw [H5 hvd]
    have hst2:=hnx _ hbm hk2;simp only [hT2] at hst2;simp only [hk2,hT2,show ¬((2:Int)=3) by decide,H4,H2,H3,H1]
    cases r with
    | zero =>
     have eB:pthB d t st F (some y,cc)=[⟨2,st,t,cc⟩]:=by unfold pthB; rw [hF0 rfl]; simp only [hvd]; rw [H5 trivial]
     rw [eB];obtain ⟨X,h⟩:=hone 2;exact ⟨X,h⟩
    | succ r' =>
     obtain ⟨f,hf,hcall⟩:=hF1 r' rfl;have eB:pthB d t st F (some y,cc)=f (carT d t y) cc (st++[y]):=by unfold pthB; rw [hf]; simp only [hvd]; rw [H5 trivial]
     have er:¬(((r'+1:Nat):Int)=0):=by omega
     have ew:IntKind.i64.wrap (((r'+1:Nat):Int)-1)=(r':Int):=by rw [IntWalk.i64_in _ (by omega)]; omega
     have b2:E9 (st.length+1) M63=true:=b63 (by omega)
     have e2:st.map rdRow++[[.int (bR (some y)),.sl ((bP (some y)).map iRow)]]=(st++[y]).map rdRow:=by rw [D6]; rfl
     obtain ⟨X1,h1⟩:=hcall (carT d t y) cc (st++[y]) out hst2 (by rw [E0]; simp only [C1,C7]; omega) (fun x hx=>by
      rcases D0.1 hx with hx | hx
      · exact hsp x hx
      · rw [D3.1 hx]; exact hp) ho
     rw [eB];simp only [er,H4,H2,b2,H1,e2,ew];by_cases hle:(out++f (carT d t y) cc (st++[y])).length<=30
     · obtain ⟨X,h2⟩:=ih (i+1) (out++f (carT d t y) cc (st++[y])) (by omega) hle
       refine ⟨X,?_⟩;rw [H5 hle] at h1;rw [D7] at h2;simp only [h1,nv0,nvS,dvI,dvB,dvS,dvL,B5,D8,H2,h2]
     · refine ⟨X1,?_⟩
       rw [H6 hle] at h1;simp only [h1,nv0,nvS,dvI,dvB,dvS,dvL,B5,K0,H1];rw [H6 (by rw [<- D7,E0]; omega)]
theorem ptA1 (d:DfM) (hd:DfB d) (v:List ByteArray) (hv:v.length<=1048576) (hvs:∀ x∈v,x.size<=maxLen):∀ (r:Nat) (t:Tm) (cl:List Int) (st:List Stp) (out:List PtM),StG d v t cl->st.length+r<=200->(∀ x∈st,x.2.length<=60)->out.length<=30->∃ X:Rows,rn ⟨17,0,0⟩ [.sl (d.so.map sRow),.sl (d.op.map OpM.row),.sl (d.ru.map RuM.row),.sl (d.st.map StM.row),.sl (v.map sRow),.int t.k,.int t.n,.str t.s,.sl (t.as.map Tm.row),.sl (cl.map iRow),.sl (st.map rdRow),.int (r:Int),.sl (out.map (PtM.row v))]=if (out++pth d v r t cl st).length<=30 then some (0,[.bool true,.sl ((out++pth d v r t cl st).map (PtM.row v))]) else some (0,[.bool false,.sl X]):=by
 have one:∀ (r:Nat) (F:Option PtF) (t:Tm) (cl:List Int) (st:List Stp) (out:List PtM) (A:List PtM),StG d v t cl->A=(brF d v t cl []).flatMap (pthB d t st F)->out.length<=30->(∃ X:Rows,rn ⟨17,0,1⟩ [.sl (st.map rdRow),.int (r:Int),.int ((brF d v t cl []).length:Int),.int ((0:Nat):Int),.sl (d.so.map sRow),.sl (d.op.map OpM.row),.sl (d.ru.map RuM.row),.sl (d.st.map StM.row),.sl (v.map sRow),.int t.k,.int t.n,.str t.s,.sl (t.as.map Tm.row),.sl (cl.map iRow),.sl ((brF d v t cl []).map (brRow d v t)),.sl (out.map (PtM.row v))]=if (out++((brF d v t cl []).drop 0).flatMap (pthB d t st F)).length<=30 then some (0,[.sl ((out++((brF d v t cl []).drop 0).flatMap (pthB d t st F)).map (PtM.row v))]) else some (1,[.sl X]))->∃ X:Rows,rn ⟨17,0,0⟩ [.sl (d.so.map sRow),.sl (d.op.map OpM.row),.sl (d.ru.map RuM.row),.sl (d.st.map StM.row),.sl (v.map sRow),.int t.k,.int t.n,.str t.s,.sl (t.as.map Tm.row),.sl (cl.map iRow),.sl (st.map rdRow),.int (r:Int),.sl (out.map (PtM.row v))]=if (out++A).length<=30 then some (0,[.bool true,.sl ((out++A).map (PtM.row v))]) else some (0,[.bool false,.sl X]):=by
  intro r F t cl st out A hs hA ho ⟨X,h2⟩;obtain ⟨s1,s2,s3⟩:=hs.sy2 hd hv hvs;have h1:=r38 _ s1 s2;rw [s3] at h1;unfold SyM.row at h1;simp only at h1;rw [D1,<- hA] at h2;simp only [C3] at h2;refine ⟨X,?_⟩;rw [e17_0_0];simp only [h1,nv0,nvS,dvI,dvB,dvS,dvL,B5,B6,h2];by_cases hle:(out++A).length<=30
  · rw [H5 hle,H5 hle]; rfl
  · rw [H6 hle,H6 hle]; rfl
 intro r;induction r with
 | zero =>
  intro t cl st out hs hst hsp ho;exact one 0 none t cl st out _ hs rfl ho (ptl1 d hd v hv hvs t cl hs 0 st hst hsp none (fun _=>rfl) (fun r' h=>by omega) _ rfl _ 0 out (D2 _) ho)
 | succ r ih =>
  intro t cl st out hs hst hsp ho;exact one (r+1) (some (pth d v r)) t cl st out _ hs rfl ho (ptl1 d hd v hv hvs t cl hs (r+1) st hst hsp (some (pth d v r)) (fun h=>by omega) (fun r' h=>⟨_,rfl,by
   obtain rfl:r=r':=by omega
   exact ptA2 d hd v hv hvs r⟩) _ rfl _ 0 out (D2 _) ho)
theorem r6 (s:SyM) (hs:SyB s) (f:Int):rn ⟨6,0,0⟩ [.sl (s.d.so.map sRow),.sl (s.d.op.map OpM.row),.sl (s.d.ru.map RuM.row),.sl (s.d.st.map StM.row),.sl (s.v.map sRow),.int s.t.k,.int s.t.n,.str s.t.s,.sl (s.t.as.map Tm.row),.sl (s.c.map iRow),.int f]=some (0,ptD s.v (ptR s f)):=by
 have h1:=symI s.d hs.d s.v hs.v hs.vs s.t hs.w hs.n s.c hs.c;rw [e6_0_0];simp only [h1,nv0,nvS,dvI,dvB,dvS,dvL,B5];unfold ptR;cases h:symC s.d s.v s.t s.c with
 | false=>rw [H6 (by simp)]; rfl
 | true =>
  by_cases h0:0<=f
  · by_cases h2:f<=200
    · have hst:StG s.d s.v s.t s.c:=by
       simp only [symC,Bool.and_eq_true] at h;exact ⟨hs.w,h.1,h.2⟩
      obtain ⟨X,h3⟩:=ptA1 s.d hs.d s.v hs.v hs.vs f.toNat s.t s.c [] [] hst (by simp only [C7]; omega) (by simp) (J9 _)
      rw [Int.toNat_of_nonneg h0] at h3;simp only [D4,E5] at h3;rw [H8 (show ¬ f<0 by omega),H8 (show ¬(200:Int)<f by omega)]
      simp only [D8,H2,h3];by_cases hle:(pth s.d s.v f.toNat s.t s.c []).length<=30
      · rw [H5 hle,H5 ⟨trivial,h0,h2,hle⟩]; rfl
      · rw [H6 hle,H6 (fun k=>hle k.2.2.2)]; rfl
    · rw [H6 (fun k=>h2 k.2.2.1),H8 (show ¬ f<0 by omega),H7 (show (200:Int)<f by omega)]; rfl
  · rw [H6 (fun k=>h0 k.2.1),H7 (show f<0 by omega)]; rfl
theorem r7 (s:SyM) (hs:SyB s) (f:Int):rn ⟨7,0,0⟩ [.sl (s.d.so.map sRow),.sl (s.d.op.map OpM.row),.sl (s.d.ru.map RuM.row),.sl (s.d.st.map StM.row),.sl (s.v.map sRow),.int s.t.k,.int s.t.n,.str s.t.s,.sl (s.t.as.map Tm.row),.sl (s.c.map iRow),.int f]=some (0,ptD s.v (ptR s f)):=by
 have h1:=symS s.d hs.d s.v hs.v hs.vs s.t hs.w hs.n s.c hs.c;rw [e7_0_0];simp only [h1,nv0,nvS,dvI,dvB,dvS,dvL,B5,rIn];unfold ptR;cases h:symC s.d s.v s.t s.c with
 | false=>rw [H6 (by simp)]; rfl
 | true =>
  by_cases h0:0<=f
  · by_cases h2:f<=200
    · have hst:StG s.d s.v s.t s.c:=by
       simp only [symC,Bool.and_eq_true] at h;exact ⟨hs.w,h.1,h.2⟩
      have h3:=wkA1 s.d hs.d s.v hs.v hs.vs f.toNat s.t s.c [] [] hst (by simp only [C7]; omega) (by simp) (J9 _)
      rw [Int.toNat_of_nonneg h0] at h3;simp only [D4,E5] at h3;simp only [h0,h2,H3,Bool.and_self,D8,H2,h3,nv0,nvS,dvI,dvB,dvS,dvL,B5,B6,Q0];by_cases hle:(pth s.d s.v f.toNat s.t s.c []).length<=30
      · rw [H5 ⟨trivial,trivial,trivial,hle⟩,H8 (by omega),O4 (by omega)]; rfl
      · rw [H6 (fun k=>hle k.2.2.2),H7 (by omega)]; rfl
    · rw [H6 (fun k=>h2 k.2.2.1),H8 h2,Bool.and_false]; rfl
  · rw [H6 (fun k=>h0 k.2.1),H8 h0]; rfl
end Go.Q.S
end
section
namespace Go.Q.S
open Go Go.Q Go.Proofs
theorem byte_ok {code:Rows} (hl:code.length<=1048576) (i:Nat) (h:Int):Good (rn ⟨127,0,0⟩ [.sl code,.int (i:Int),.int h]) fun x=>∃ b:Int,∃ i':Nat,∃ h':Int,0<=b/\b<=255/\x=(0,[.int b,.sl code,.int ((i':Nat):Int),.int h']):=by
 rw [e127_0_0];rw [H7 (by decide:(0:Int)<=33),H7 (by decide:(0:Int)<=45)]
 simp only [H1];by_cases hi:i<code.length
 · rw [H7 (by omega:(i:Int)<(code.length:Int))]
   simp only [H1,inbN,hi,H3,wrap_succ hi (by unfold maxLen; omega)]
   obtain ⟨h1,h2⟩:=and255 (IntKind.i64.wrap ((andI .i64 (xorI .i64 (shrI .i64 (IntKind.i64.wrap ((IntKind.i64.wrap (h*6364136223846793005))+1442695040888963407)) 33) (shrI .i64 (IntKind.i64.wrap ((IntKind.i64.wrap (h*6364136223846793005))+1442695040888963407)) 45)) 255)+(IntKind.i64.wrap ((nth (rowAt code (O5 (i:Int))) 0).I))));exact Good.ret ⟨_,i+1,_,h1,h2,rfl⟩
 · rw [H8 (by omega:¬(i:Int)<(code.length:Int))]
   simp only [H2];obtain ⟨h1,h2⟩:=and255 (xorI .i64 (shrI .i64 (IntKind.i64.wrap ((IntKind.i64.wrap (h*6364136223846793005))+1442695040888963407)) 33) (shrI .i64 (IntKind.i64.wrap ((IntKind.i64.wrap (h*6364136223846793005))+1442695040888963407)) 45));exact Good.ret ⟨_,i,_,h1,h2,rfl⟩
theorem below_ok {code:Rows} (hl:code.length<=1048576) (i:Nat) (h:Int) {n:Int} (h0:0<n) (h1:n<=256):Good (rn ⟨65,0,0⟩ [.int n,.sl code,.int (i:Int),.int h]) fun x=>∃ b:Int,∃ i':Nat,∃ h':Int,0<=b/\b<n/\x=(0,[.int b,.sl code,.int ((i':Nat):Int),.int h']):=by
 rw [e65_0_0];rw [H8 (by omega:¬ n<=0),H7 h1]
 simp only [H1,H2];refine Good.bind (byte_ok hl i h) ?_
 rintro _ ⟨b,i',h',b0,b1,rfl⟩
 simp only [nv0,nvS,dvI,dvB,dvS,dvL,B5];rw [H8 (by omega:¬ n=0)]
 exact Good.ret ⟨_,i',h',Int.tmod_nonneg _ b0,Int.tmod_lt_of_pos _ h0,rfl⟩
theorem once_ok {code:Rows} (hl:code.length<=1048576) (i:Nat) (h:Int) {n:Int} (h0:0<n) (h1:n<=256):Good (rn ⟨61,0,0⟩ [.int n,.sl code,.int (i:Int),.int h]) fun x=>∃ b:Bool,∃ i':Nat,∃ h':Int,x=(0,[.bool b,.sl code,.int ((i':Nat):Int),.int h']):=by
 rw [e61_0_0];refine Good.bind (below_ok hl i h h0 h1) ?_
 rintro _ ⟨b,i',h',b0,b1,rfl⟩
 exact Good.ret ⟨_,i',h',rfl⟩
theorem pick_ok {code:Rows} (hl:code.length<=1048576) (i:Nat) (h:Int) {l:Rows} (h0:0<l.length) (h1:l.length<=256) (m:Nat) (hs:∀ k,k<l.length->((nth (rowAt l k) 0).S).size<=m):Good (rn ⟨119,0,0⟩ [.sl l,.sl code,.int (i:Int),.int h]) fun x=>∃ s:ByteArray,∃ i':Nat,∃ h':Int,s.size<=m/\x=(0,[.str s,.sl code,.int ((i':Nat):Int),.int h']):=by
 rw [e119_0_0];refine Good.bind (below_ok hl i h (by omega:(0:Int)<(l.length:Int)) (by omega)) ?_
 rintro _ ⟨b,i',h',b0,b1,rfl⟩
 simp only [nv0,nvS,dvI,dvB,dvS,dvL,B5];rw [show inb b l.length=true from by simp [inb,b0,b1]]
 exact Good.ret ⟨_,i',h',hs b.toNat (by omega),rfl⟩
theorem pickI_ok {code:Rows} (hl:code.length<=1048576) (i:Nat) (h:Int) {l:Rows} (h0:0<l.length) (h1:l.length<=256) (hs:∀ k,k<l.length->-1000<=(nth (rowAt l k) 0).I/\(nth (rowAt l k) 0).I<=1000):Good (rn ⟨28,0,0⟩ [.sl l,.sl code,.int (i:Int),.int h]) fun x=>∃ n:Int,∃ i':Nat,∃ h':Int,-1000<=n/\n<=1000/\x=(0,[.int n,.sl code,.int ((i':Nat):Int),.int h']):=by
 rw [e28_0_0];refine Good.bind (below_ok hl i h (by omega:(0:Int)<(l.length:Int)) (by omega)) ?_
 rintro _ ⟨b,i',h',b0,b1,rfl⟩
 simp only [nv0,nvS,dvI,dvB,dvS,dvL,B5];rw [show inb b l.length=true from by simp [inb,b0,b1]]
 exact Good.ret ⟨_,i',h',(hs b.toNat (by omega)).1,(hs b.toNat (by omega)).2,rfl⟩
theorem pickT_ok {code:Rows} (hl:code.length<=1048576) (i:Nat) (h:Int) (ts:List Tm) (h0:0<ts.length) (h1:ts.length<=256):Good (rn ⟨161,0,0⟩ [.sl (ts.map Tm.row),.sl code,.int (i:Int),.int h]) fun x=>∃ t:Tm,∃ i':Nat,∃ h':Int,t∈ts/\x=(0,[.int t.k,.int t.n,.str t.s,.sl (t.as.map Tm.row),.sl code,.int ((i':Nat):Int),.int h']):=by
 rw [e161_0_0,B6];refine Good.bind (below_ok hl i h (by omega:(0:Int)<(ts.length:Int)) (by omega)) ?_
 rintro _ ⟨b,i',h',b0,b1,rfl⟩
 obtain ⟨n,rfl⟩:=T3 b0;have hn:n<ts.length:=by omega
 simp only [nv0,nvS,dvI,dvB,dvS,dvL,B5,inbN,hn,H3,H1,B8,rowAt_map hn,Tm.row_eq];exact Good.ret ⟨ts[n],i',h',C2 hn,rfl⟩
theorem new_ok {code:Rows} (hl:code.length<=1048576):Good (rn ⟨29,0,0⟩ [.sl code]) fun x=>∃ i':Nat,∃ h':Int,x=(0,[.sl code,.int ((i':Nat):Int),.int h']):=by
 have key:∀ (n i:Nat) (h:Int),i+n=code.length->∃ h':Int,rn ⟨29,0,1⟩ [.sl code,.int h,.int (i:Int)]=some (0,[.sl code,.int h']):=by
  intro n;induction n with
  | zero =>
   intro i h hi;rw [e29_0_1,H8 (by omega:¬(i:Int)<(code.length:Int))]
   exact ⟨_,rfl⟩
  | succ n ih =>
   intro i h hi;have hlt:i<code.length:=by omega
   rw [e29_0_1,H7 (by omega:(i:Int)<(code.length:Int))]
   simp only [H1,inbN,hlt,H3,wrap_succ hlt (by unfold maxLen; omega)]
   cases decide ((i:Int)<4000) with
   | true=>exact ih (i+1) _ (by omega)
   | false=>exact ⟨_,rfl⟩
 rw [e29_0_0];obtain ⟨h',e⟩:=key code.length 0 (IntKind.i64.wrap (26583+(code.length:Int))) (D2 _);simp only [C3] at e;rw [e];exact Good.ret ⟨0,h',rfl⟩
theorem r125 (s:ByteArray):rn ⟨125,0,0⟩ [.str s]=some (0,[.int 1,.int 0,.str s,.sl []]):=by rw [e125_0_0]
theorem r162 (s:ByteArray) (l:Rows):rn ⟨162,0,0⟩ [.str s,.sl l]=some (0,[.int 2,.int 0,.str s,.sl l]):=by rw [e162_0_0]
theorem r162b (s:ByteArray) (l:Rows):rn ⟨162,1,0⟩ [.str s,.sl l]=some (0,[.int 2,.int 0,.str s,.sl l]):=by rw [e162_1_0]
theorem r159 (s:ByteArray) (t:Tm):rn ⟨159,0,0⟩ [.str s,.int t.k,.int t.n,.str t.s,.sl (t.as.map Tm.row)]=some (0,[.int 2,.int 0,.str s,.sl [t.row]]):=by
 rw [e159_0_0];simp only [r162,r162b,nv0,nvS,dvI,dvB,dvS,dvL,B5,Tm.row_eq t]
theorem r160 (s:ByteArray) (t u:Tm):rn ⟨160,0,0⟩ [.str s,.int t.k,.int t.n,.str t.s,.sl (t.as.map Tm.row),.int u.k,.int u.n,.str u.s,.sl (u.as.map Tm.row)]=some (0,[.int 2,.int 0,.str s,.sl [t.row,u.row]]):=by
 rw [e160_0_0];simp only [r162,r162b,nv0,nvS,dvI,dvB,dvS,dvL,B5,Tm.row_eq t,Tm.row_eq u]
def DTk (code:Rows) (k m:Nat) (x:Nat × List D):Prop:=∃ t:Tm,∃ i':Nat,∃ h':Int,Dt k t/\t.nodes<=m/\x=(0,[.int t.k,.int t.n,.str t.s,.sl code,.int (i':Int),.int h',.sl (t.as.map Tm.row)])
theorem lfV {code:Rows} {k m:Nat} {s:ByteArray} {i:Nat} {h:Int} (hs:s.size<=k) (hm:1<=m):Good (some (0,[.int 1,.int 0,.str s,.sl code,.int (i:Int),.int h,.sl []])) (DTk code k m) :=
 Good.ret ⟨.mk 1 0 s [],i,h,.var hs,by simp [Tm.nodes,Tm.nodesL]; exact hm,rfl⟩
theorem lfC {code:Rows} {k m:Nat} {s:ByteArray} {i:Nat} {h:Int} (hs:s.size<=k) (hm:1<=m):Good (some (0,[.int 2,.int 0,.str s,.sl code,.int (i:Int),.int h,.sl []])) (DTk code k m) :=
 Good.ret ⟨.mk 2 0 s [],i,h,.app hs (by simp) (by simp),by simp [Tm.nodes,Tm.nodesL]; exact hm,rfl⟩
theorem lfW {code:Rows} {k m:Nat} {n:Int} {i:Nat} {h:Int} (h0:0<=n) (h1:n<=255) (hm:1<=m):Good (some (0,[.int 3,.int n,.str ⟨#[]⟩,.sl code,.int (i:Int),.int h,.sl []])) (DTk code k m) :=
 Good.ret ⟨.mk 3 n ⟨#[]⟩ [],i,h,.word h0 h1,by simp [Tm.nodes,Tm.nodesL]; exact hm,rfl⟩
theorem lf1 {code:Rows} {k m:Nat} {s:ByteArray} {t:Tm} {i:Nat} {h:Int} (hs:s.size<=k) (ht:Dt k t) (hm:t.nodes+1<=m):Good (some (0,[.int 2,.int 0,.str s,.sl code,.int (i:Int),.int h,.sl [t.row]])) (DTk code k m) :=
 Good.ret ⟨.mk 2 0 s [t],i,h,.app hs (by simp) (by simpa using ht),by simp [Tm.nodes,Tm.nodesL]; omega,rfl⟩
theorem lf2 {code:Rows} {k m:Nat} {s:ByteArray} {t u:Tm} {i:Nat} {h:Int} (hs:s.size<=k) (ht:Dt k t) (hu:Dt k u) (hm:t.nodes+u.nodes+1<=m):Good (some (0,[.int 2,.int 0,.str s,.sl code,.int (i:Int),.int h,.sl [t.row,u.row]])) (DTk code k m) :=
 Good.ret ⟨.mk 2 0 s [t,u],i,h,.app hs (by simp) (by simp [ht,hu]),by simp [Tm.nodes,Tm.nodesL]; omega,rfl⟩
theorem draw_ok {code:Rows} (hl:code.length<=1048576):∀ (d:Nat) (g:Bool) (i:Nat) (h:Int),d<=64->Good (rn ⟨164,0,0⟩ [.int (d:Int),.bool g,.sl code,.int (i:Int),.int h]) (DTk code 1 (2 ^ (d+1)-1)):=by
 intro d;induction d with
 | zero =>
  intro g i h hd;rw [e164_0_0,H7 (by decide:((0:Nat):Int)<2)]
  simp only [H1];repeat' (first
   | refine Good.ite (fun _=>?_) (fun _=>?_)
   | (refine Good.bind (once_ok hl _ _ (by decide) (by decide)) ?_; rintro _ ⟨b,i,h,rfl⟩; simp only [nv0,nvS,dvI,dvB,dvS,dvL,B5])
   | (refine Good.bind (below_ok hl _ _ (by decide) (by decide)) ?_; rintro _ ⟨b,i,h,_,_,rfl⟩; simp only [nv0,nvS,dvI,dvB,dvS,dvL,B5])
   | (refine Good.bind (pick_ok hl _ _ (by decide) (by decide) 1 (by decide)) ?_; rintro _ ⟨b,i,h,_,rfl⟩; simp only [nv0,nvS,dvI,dvB,dvS,dvL,B5])
   | (simp only [r125,r105,r162,r162b,nv0,nvS,dvI,dvB,dvS,dvL,B5]))
  all_goals (first | exact lfV (by assumption) (by decide) | exact lfC (by assumption) (by decide) | exact lfW (by assumption) (by omega) (by decide))
 | succ d ih =>
  intro g i h hd;have hp:2 ^ (d+1+1)=2*2 ^ (d+1):=by omega
  have h1:1<=2 ^ (d+1):=Nat.one_le_pow _ _ (by decide)
  rw [e164_0_0];simp only [H2,wrap_dec (show d<=64 by omega)]
  repeat' (first
   | refine Good.ite (fun _=>?_) (fun _=>?_)
   | (refine Good.bind (ih _ _ _ (by omega)) ?_; rintro _ ⟨t,i,h,_,_,rfl⟩; simp only [nv0,nvS,dvI,dvB,dvS,dvL,B5])
   | (refine Good.bind (once_ok hl _ _ (by decide) (by decide)) ?_; rintro _ ⟨b,i,h,rfl⟩; simp only [nv0,nvS,dvI,dvB,dvS,dvL,B5])
   | (refine Good.bind (below_ok hl _ _ (by decide) (by decide)) ?_; rintro _ ⟨b,i,h,_,_,rfl⟩; simp only [nv0,nvS,dvI,dvB,dvS,dvL,B5])
   | (refine Good.bind (pick_ok hl _ _ (by decide) (by decide) 1 (by decide)) ?_; rintro _ ⟨b,i,h,_,rfl⟩; simp only [nv0,nvS,dvI,dvB,dvS,dvL,B5])
   | (simp only [r125,r105,r162,r162b,r159,r160,nv0,nvS,dvI,dvB,dvS,dvL,B5]))
  all_goals (first | exact lfV (by assumption) (by omega) | exact lfC (by assumption) (by omega) | exact lfW (by assumption) (by omega) (by omega) | exact lf1 (by first | assumption | decide) (by assumption) (by omega) | exact lf2 (by first | assumption | decide) (by assumption) (by assumption) (by omega))
end Go.Q.S
end
section
namespace Go.Q.S
open Go Go.Q Go.Proofs
theorem word_ok {code:Rows} (hl:code.length<=1048576):∀ (d:Nat) (g:Bool) (i:Nat) (h:Int),d<=64->Good (rn ⟨124,0,0⟩ [.str (⟨#[119,111,114,100]⟩:ByteArray),.int (d:Int),.bool g,.sl code,.int (i:Int),.int h]) (DTk code 8 (4 ^ d)):=by
 intro d;induction d with
 | zero =>
  intro g i h hd;rw [e124_0_0];rw [H7 (rfl:(⟨#[119,111,114,100]⟩:ByteArray)=(⟨#[119,111,114,100]⟩:ByteArray)),H8 (by decide:¬(1:Int)<((0:Nat):Int))]
  simp only [H1,H2];repeat' (first
   | refine Good.ite (fun _=>?_) (fun _=>?_)
   | (refine Good.bind (once_ok hl _ _ (by decide) (by decide)) ?_; rintro _ ⟨b,i,h,rfl⟩; simp only [nv0,nvS,dvI,dvB,dvS,dvL,B5])
   | (refine Good.bind (below_ok hl _ _ (by decide) (by decide)) ?_; rintro _ ⟨b,i,h,_,_,rfl⟩; simp only [nv0,nvS,dvI,dvB,dvS,dvL,B5])
   | (refine Good.bind (pick_ok hl _ _ (by decide) (by decide) 8 (by decide)) ?_; rintro _ ⟨b,i,h,_,rfl⟩; simp only [nv0,nvS,dvI,dvB,dvS,dvL,B5])
   | (simp only [r125,r105,r162,r162b,nv0,nvS,dvI,dvB,dvS,dvL,B5]))
  all_goals (first | exact lfV (by assumption) (by decide) | exact lfW (by assumption) (by omega) (by decide))
 | succ d ih =>
  intro g i h hd;have hp:4 ^ (d+1)=4*4 ^ d:=by omega
  have h1:1<=4 ^ d:=Nat.one_le_pow _ _ (by decide)
  rw [e124_0_0];rw [H7 (rfl:(⟨#[119,111,114,100]⟩:ByteArray)=(⟨#[119,111,114,100]⟩:ByteArray))];simp only [H1,wrap_dec (show d<=64 by omega)]
  repeat' (first
   | (refine Good.bind (ih _ _ _ (by omega)) ?_; rintro _ ⟨t,i,h,_,_,rfl⟩; simp only [nv0,nvS,dvI,dvB,dvS,dvL,B5])
   | refine Good.ite (fun _=>?_) (fun _=>?_)
   | (refine Good.bind (once_ok hl _ _ (by decide) (by decide)) ?_; rintro _ ⟨b,i,h,rfl⟩; simp only [nv0,nvS,dvI,dvB,dvS,dvL,B5])
   | (refine Good.bind (below_ok hl _ _ (by decide) (by decide)) ?_; rintro _ ⟨b,i,h,_,_,rfl⟩; simp only [nv0,nvS,dvI,dvB,dvS,dvL,B5])
   | (refine Good.bind (pick_ok hl _ _ (by decide) (by decide) 8 (by decide)) ?_; rintro _ ⟨b,i,h,_,rfl⟩; simp only [nv0,nvS,dvI,dvB,dvS,dvL,B5])
   | (simp only [r125,r105,r162,r162b,r159,r160,nv0,nvS,dvI,dvB,dvS,dvL,B5]))
  all_goals (first | exact lfV (by assumption) (by omega) | exact lfW (by assumption) (by omega) (by omega) | exact lf2 (by assumption) (by assumption) (by assumption) (by omega))
theorem term_ok {code:Rows} (hl:code.length<=1048576) {s:ByteArray} (hs:s≠(⟨#[119,111,114,100]⟩:ByteArray)):∀ (d:Nat) (g:Bool) (i:Nat) (h:Int),d<=64->Good (rn ⟨124,0,0⟩ [.str s,.int (d:Int),.bool g,.sl code,.int (i:Int),.int h]) (DTk code 8 (8*4 ^ d)):=by
 have hE:(⟨#[101]⟩:ByteArray)≠(⟨#[119,111,114,100]⟩:ByteArray):=by decide
 have hW1:∀ g i h,Good (rn ⟨124,0,0⟩ [.str (⟨#[119,111,114,100]⟩:ByteArray),.int 1,.bool g,.sl code,.int ((i:Nat):Int),.int h]) (DTk code 8 4):=fun g i h=>word_ok hl 1 g i h (by decide)
 intro d;induction d generalizing s with
 | zero =>
  intro g i h hd;rw [e124_0_0];rw [H8 hs,H7 (by decide:((0:Nat):Int)<2)]
  simp only [H1,H2];repeat' (first
   | (refine Good.bind (hW1 _ _ _) ?_; rintro _ ⟨t,i,h,_,_,rfl⟩; simp only [nv0,nvS,dvI,dvB,dvS,dvL,B5])
   | refine Good.ite (fun _=>?_) (fun _=>?_)
   | (refine Good.bind (once_ok hl _ _ (by decide) (by decide)) ?_; rintro _ ⟨b,i,h,rfl⟩; simp only [nv0,nvS,dvI,dvB,dvS,dvL,B5])
   | (refine Good.bind (below_ok hl _ _ (by decide) (by decide)) ?_; rintro _ ⟨b,i,h,_,_,rfl⟩; simp only [nv0,nvS,dvI,dvB,dvS,dvL,B5])
   | (refine Good.bind (pick_ok hl _ _ (by decide) (by decide) 8 (by decide)) ?_; rintro _ ⟨b,i,h,_,rfl⟩; simp only [nv0,nvS,dvI,dvB,dvS,dvL,B5])
   | (simp only [r125,r105,r162,r162b,r159,r160,nv0,nvS,dvI,dvB,dvS,dvL,B5]))
  all_goals (first | exact lfV (by assumption) (by decide) | exact lfC (by assumption) (by decide) | exact lf1 (by first | assumption | decide) (by assumption) (by omega))
 | succ d ih =>
  intro g i h hd;have hp:4 ^ (d+1)=4*4 ^ d:=by omega
  have h1:1<=4 ^ d:=Nat.one_le_pow _ _ (by decide)
  rw [e124_0_0];rw [H8 hs];simp only [H2,wrap_dec (show d<=64 by omega)]
  repeat' (first
   | (refine Good.bind (hW1 _ _ _) ?_; rintro _ ⟨t,i,h,_,_,rfl⟩; simp only [nv0,nvS,dvI,dvB,dvS,dvL,B5])
   | (refine Good.bind (ih hE _ _ _ (by omega)) ?_; rintro _ ⟨t,i,h,_,_,rfl⟩; simp only [nv0,nvS,dvI,dvB,dvS,dvL,B5])
   | (refine Good.bind (word_ok hl d _ _ _ (by omega)) ?_; rintro _ ⟨t,i,h,_,_,rfl⟩; simp only [nv0,nvS,dvI,dvB,dvS,dvL,B5])
   | refine Good.ite (fun _=>?_) (fun _=>?_)
   | (refine Good.bind (once_ok hl _ _ (by decide) (by decide)) ?_; rintro _ ⟨b,i,h,rfl⟩; simp only [nv0,nvS,dvI,dvB,dvS,dvL,B5])
   | (refine Good.bind (below_ok hl _ _ (by decide) (by decide)) ?_; rintro _ ⟨b,i,h,_,_,rfl⟩; simp only [nv0,nvS,dvI,dvB,dvS,dvL,B5])
   | (refine Good.bind (pick_ok hl _ _ (by decide) (by decide) 8 (by decide)) ?_; rintro _ ⟨b,i,h,_,rfl⟩; simp only [nv0,nvS,dvI,dvB,dvS,dvL,B5])
   | (simp only [r125,r105,r162,r162b,r159,r160,nv0,nvS,dvI,dvB,dvS,dvL,B5]))
  all_goals (first | exact lfV (by assumption) (by omega) | exact lfC (by assumption) (by omega) | exact lf1 (by first | assumption | decide) (by assumption) (by omega) | exact lf2 (by first | assumption | decide) (by assumption) (by assumption) (by omega))
theorem DTk.mono {code:Rows} {k m m':Nat} {x:Nat × List D} (h:DTk code k m x) (hm:m<=m'):DTk code k m' x:=by
 obtain ⟨t,i,h',h1,h2,e⟩:=h;exact ⟨t,i,h',h1,G6 h2 hm,e⟩
theorem wordN {code:Rows} (hl:code.length<=1048576) (d:Nat) (k:Int) (e:(d:Int)=k) (m:Nat) (hm:4 ^ d<=m) (hd:d<=64) (g:Bool) (i:Nat) (h:Int):Good (rn ⟨124,0,0⟩ [.str (⟨#[119,111,114,100]⟩:ByteArray),.int k,.bool g,.sl code,.int (i:Int),.int h]) (DTk code 8 m):=by
 subst e;exact Good.mono (word_ok hl d g i h hd) fun x hx=>hx.mono hm
theorem termN {code:Rows} (hl:code.length<=1048576) (d:Nat) (k:Int) (e:(d:Int)=k) (m:Nat) (hm:8*4 ^ d<=m) (hd:d<=64) (g:Bool) (i:Nat) (h:Int):Good (rn ⟨124,0,0⟩ [.str (⟨#[101]⟩:ByteArray),.int k,.bool g,.sl code,.int (i:Int),.int h]) (DTk code 8 m):=by
 subst e;exact Good.mono (term_ok hl (by decide) d g i h hd) fun x hx=>hx.mono hm
theorem anyN {code:Rows} (hl:code.length<=1048576) (s:ByteArray) (d:Nat) (k:Int) (e:(d:Int)=k) (m:Nat) (hm:8*4 ^ d<=m) (hd:d<=64) (g:Bool) (i:Nat) (h:Int):Good (rn ⟨124,0,0⟩ [.str s,.int k,.bool g,.sl code,.int (i:Int),.int h]) (DTk code 8 m):=by
 subst e;by_cases hs:s=(⟨#[119,111,114,100]⟩:ByteArray)
 · subst hs
   exact Good.mono (word_ok hl d g i h hd) fun x hx=>hx.mono (by omega)
 · exact Good.mono (term_ok hl hs d g i h hd) fun x hx=>hx.mono hm
def DW (code:Rows) (m:Nat) (x:Nat × List D):Prop:=∃ t:Tm,∃ i':Nat,∃ h':Int,Wn m t/\x=(0,[.int t.k,.int t.n,.str t.s,.sl code,.int (i':Int),.int h',.sl (t.as.map Tm.row)])
theorem bent_ok {code:Rows} (hl:code.length<=1048576) (i:Nat) (h:Int):Good (rn ⟨121,0,0⟩ [.sl code,.int (i:Int),.int h]) (DW code 60):=by
 have key:∀ (n j:Nat) (t:Tm) (i:Nat) (h:Int) (m:Nat),j+n=16->Wn m t->∃ u:Tm,Wn (m+n) u/\rn ⟨121,0,2⟩ [.int (j:Int),.sl code,.int (i:Int),.int h,.int 0,.int 0,.str ⟨#[]⟩,.int t.k,.int t.n,.str t.s,.sl [],.sl (t.as.map Tm.row)]=some (0,[.sl code,.int (i:Int),.int h,.int 0,.int 0,.str ⟨#[]⟩,.int u.k,.int u.n,.str u.s,.sl [],.sl (u.as.map Tm.row)]):=by
  intro n;induction n with
  | zero =>
   intro j t i h m hj ht;rw [e121_0_2,H8 (by omega:¬(j:Int)<16)]
   exact ⟨t,ht,rfl⟩
  | succ n ih =>
   intro j t i h m hj ht;rw [e121_0_2,H7 (by omega:(j:Int)<16)]
   have ew:IntKind.i64.wrap ((j:Int)+1)=((j+1:Nat):Int):=by rw [IntWalk.i64_in _ (by omega)]; omega
   simp only [H1,r159,nv0,nvS,dvI,dvB,dvS,dvL,B5,ew];obtain ⟨u,hu,e⟩:=ih (j+1) (tO (⟨#[103]⟩:ByteArray) t) i h (m+1) (by omega) (wn_O (by decide) ht)
   exact ⟨u,hu.mono (by omega),e⟩
 rw [e121_0_0];refine Good.bind (below_ok hl _ _ (by decide) (by decide)) ?_
 rintro _ ⟨b1,i,h,hb0,hb1,rfl⟩
 simp only [nv0,nvS,dvI,dvB,dvS,dvL,B5];refine Good.bind (once_ok hl _ _ (by decide) (by decide)) ?_
 rintro _ ⟨g,i,h,rfl⟩
 simp only [nv0,nvS,dvI,dvB,dvS,dvL,B5];have e:∃ d:Nat,IntKind.i64.wrap (1+b1)=(d:Int)/\d<=4:=⟨(1+b1).toNat,by rw [IntWalk.i64_in _ (by omega)]; omega,by omega⟩
 obtain ⟨d,e,hd2⟩:=e;rw [e];refine Good.bind (draw_ok hl d g _ _ (by omega)) ?_
 rintro _ ⟨t,i,h,ht,htn,rfl⟩
 have hq:2 ^ (d+1)<=2 ^ 5:=Nat.pow_le_pow_right (by decide) (by omega)
 have hq8:(2:Nat) ^ 5=32:=rfl;have hw:Wn 31 t:=ht.wn (by decide) (by omega)
 have hal:t.as.length<=2:=by
  cases ht with
  | var _=>simp [Tm.as]
  | word _ _=>simp [Tm.as]
  | app _ h _=>exact h
 have hk:-1000<=t.k/\t.k<=1000/\-1000<=t.n/\t.n<=1000/\t.s.size<=1000:=by
  cases ht with
  | var h=>refine ⟨?_,?_,?_,?_,?_⟩ <;> simp [Tm.k,Tm.n,Tm.s]; omega
  | word h0 h1=>exact ⟨by show (-1000:Int)<=3; decide,by show (3:Int)<=1000; decide,by simp only [Tm.n]; omega,by simp only [Tm.n]; omega,by show (⟨#[]⟩:ByteArray).size<=1000; decide⟩
  | app h _ _=>refine ⟨?_,?_,?_,?_,?_⟩ <;> simp [Tm.k,Tm.n,Tm.s]; omega
 obtain ⟨k1,k2,k3,k4,k5⟩:=hk;have hsub:∀ a∈t.as,Wt a:=fun a ha=>hw.w.sub ha
 have hnod:∀ (k n:Int) (s:ByteArray),(Tm.mk k n s t.as).nodes<=31:=fun k n s=>by have:=hw.n; rw [Tm.nodes_eq] at this ⊢; exact this
 simp only [nv0,nvS,dvI,dvB,dvS,dvL,B5];refine Good.bind (below_ok hl _ _ (by decide) (by decide)) ?_
 rintro _ ⟨c,i,h,hc0,hc1,rfl⟩
 simp only [nv0,nvS,dvI,dvB,dvS,dvL,B5];refine Good.ite (fun _=>?_) (fun _=>?_)
 · refine Good.bind (below_ok hl _ _ (by decide) (by decide)) ?_
   rintro _ ⟨b,i,h,b0,b1,rfl⟩
   exact Good.ret ⟨.mk b t.n t.s t.as,i,h,⟨wt_of (by omega) (by omega) k3 k4 k5 (by omega) hsub,G6 (hnod _ _ _) (by decide)⟩,rfl⟩
 refine Good.ite (fun _=>?_) (fun _=>?_)
 · refine Good.bind (pickI_ok hl _ _ (by decide) (by decide) (by decide)) ?_
   rintro _ ⟨b,i,h,b0,b1,rfl⟩
   exact Good.ret ⟨.mk t.k b t.s t.as,i,h,⟨wt_of k1 k2 b0 b1 k5 (by omega) hsub,G6 (hnod _ _ _) (by decide)⟩,rfl⟩
 refine Good.ite (fun _=>?_) (fun _=>?_)
 · refine Good.bind (pick_ok hl _ _ (by decide) (by decide) 8 (by decide)) ?_
   rintro _ ⟨s,i,h,hs,rfl⟩
   exact Good.ret ⟨.mk t.k t.n s t.as,i,h,⟨wt_of k1 k2 k3 k4 (by omega) (by omega) hsub,G6 (hnod _ _ _) (by decide)⟩,rfl⟩
 refine Good.ite (fun _=>?_) (fun _=>?_)
 · have hb63:E9 (t.as.length+1) M63=true:=nb (by omega)
   simp only [r105,nv0,nvS,dvI,dvB,dvS,dvL,B5,B6,C1,C7,D2,hb63,H1];refine Good.ret ⟨.mk t.k t.n t.s (t.as++[tW 1]),i,h,⟨wt_of k1 k2 k3 k4 k5 (by simp; omega) (fun a ha=>?_),?_⟩,?_⟩
   · rcases D0.1 ha with ha | ha
     · exact hsub a ha
     · rw [D3.1 ha]; exact (wn_W (by decide) (by decide)).w
   · have:=hw.n
     rw [Tm.nodes_eq] at this ⊢;have h1:(tW 1).nodes=1:=by simp [tW,Tm.nodes,Tm.nodesL]
     simp only [Tm.as_mk,D6,C6,D4,List.sum_append,List.sum_cons,List.sum_nil,h1];omega
   · simp only [Tm.k_mk,Tm.s_mk,Tm.as_mk,D6,C6,D4,tW,Tm.row,Tm.rows]; rfl
 refine Good.ite (fun _=>?_) (fun _=>?_)
 · obtain ⟨u,hu,e⟩:=key 16 0 t i h 31 rfl hw
   simp only [C3] at e;simp only [e,nv0,nvS,dvI,dvB,dvS,dvL,B5,E1,H1,H2];exact Good.ret ⟨u,i,h,hu.mono (by decide),rfl⟩
 · exact Good.ret ⟨t,i,h,hw.mono (by decide),rfl⟩
def DGu (code:Rows) (x:Nat × List D):Prop:=∃ g:Gu,∃ i':Nat,∃ h':Int,GuW g/\x=(0,[.int g.k,.int g.l.k,.int g.l.n,.str g.l.s,.int g.r.k,.int g.r.n,.str g.r.s,.sl code,.int (i':Int),.int h',.sl (g.l.as.map Tm.row),.sl (g.r.as.map Tm.row)])
theorem guard_ok {code:Rows} (hl:code.length<=1048576) (i:Nat) (h:Int):Good (rn ⟨163,0,0⟩ [.sl code,.int (i:Int),.int h]) (DGu code):=by
 rw [e163_0_0];refine Good.bind (once_ok hl _ _ (by decide) (by decide)) ?_
 rintro _ ⟨g,i,h,rfl⟩
 simp only [nv0,nvS,dvI,dvB,dvS,dvL,B5];refine Good.bind (below_ok hl _ _ (by decide) (by decide)) ?_
 rintro _ ⟨b,i,h,b0,b1,rfl⟩
 simp only [nv0,nvS,dvI,dvB,dvS,dvL,B5];have ew:IntKind.i64.wrap (1+b)=1+b:=IntWalk.i64_in _ (by omega)
 rw [ew];refine Good.bind (wordN hl 3 _ rfl 64 (by decide) (by decide) _ _ _) ?_
 rintro _ ⟨t,i,h,ht,htn,rfl⟩
 simp only [nv0,nvS,dvI,dvB,dvS,dvL,B5];refine Good.bind (wordN hl 2 _ rfl 64 (by decide) (by decide) _ _ _) ?_
 rintro _ ⟨u,i,h,hu,hun,rfl⟩
 simp only [nv0,nvS,dvI,dvB,dvS,dvL,B5];refine Good.bind (once_ok hl _ _ (by decide) (by decide)) ?_
 rintro _ ⟨q,i,h,rfl⟩
 simp only [nv0,nvS,dvI,dvB,dvS,dvL,B5];refine Good.ite (fun _=>?_) (fun _=>?_)
 · refine Good.bind (termN hl 2 _ rfl 128 (by decide) (by decide) _ _ _) ?_
   rintro _ ⟨t',i,h,ht',htn',rfl⟩
   simp only [nv0,nvS,dvI,dvB,dvS,dvL,B5];refine Good.bind (termN hl 2 _ rfl 128 (by decide) (by decide) _ _ _) ?_
   rintro _ ⟨u',i,h,hu',hun',rfl⟩
   exact Good.ret ⟨⟨1+b,t',u'⟩,i,h,⟨⟨by show 0<=1+b; omega,by show 1+b<=5; omega⟩,ht'.wn (by decide) (by show t'.nodes<=_; omega),hu'.wn (by decide) (by show u'.nodes<=_; omega)⟩,rfl⟩
 · exact Good.ret ⟨⟨1+b,t,u⟩,i,h,⟨⟨by show 0<=1+b; omega,by show 1+b<=5; omega⟩,ht.wn (by decide) (by show t.nodes<=_; omega),hu.wn (by decide) (by show u.nodes<=_; omega)⟩,rfl⟩
theorem vV (s:ByteArray):rn ⟨125,0,0⟩ [.str s]=some (0,[.int (tV s).k,.int (tV s).n,.str (tV s).s,.sl ((tV s).as.map Tm.row)]):=r125 s
theorem vC (s:ByteArray):rn ⟨162,1,0⟩ [.str s,.sl []]=some (0,[.int (tC s).k,.int (tC s).n,.str (tC s).s,.sl ((tC s).as.map Tm.row)]):=r162b s []
theorem vW (n:Int):rn ⟨105,0,0⟩ [.int n]=some (0,[.int (tW n).k,.int (tW n).n,.str (tW n).s,.sl ((tW n).as.map Tm.row)]):=r105 n
theorem vO (s:ByteArray) (t:Tm):rn ⟨159,0,0⟩ [.str s,.int t.k,.int t.n,.str t.s,.sl (t.as.map Tm.row)]=some (0,[.int (tO s t).k,.int (tO s t).n,.str (tO s t).s,.sl ((tO s t).as.map Tm.row)]):=r159 s t
theorem vP (s:ByteArray) (t u:Tm):rn ⟨160,0,0⟩ [.str s,.int t.k,.int t.n,.str t.s,.sl (t.as.map Tm.row),.int u.k,.int u.n,.str u.s,.sl (u.as.map Tm.row)]=some (0,[.int (tP s t u).k,.int (tP s t u).n,.str (tP s t u).s,.sl ((tP s t u).as.map Tm.row)]):=r160 s t u
def DRu (code:Rows) (s:ByteArray) (x:Nat × List D):Prop:=∃ r:RuM,∃ i':Nat,∃ h':Int,r.n=s/\RuW r/\x=(0,[.str r.n,.int r.l.k,.int r.l.n,.str r.l.s,.int (r.r).k,.int (r.r).n,.str (r.r).s,.sl ((r.r).as.map Tm.row),.sl code,.int (i':Int),.int h',.sl (r.l.as.map Tm.row),.sl (r.g.map Gu.row)])
theorem rule_ok {code:Rows} (hl:code.length<=1048576) (s:ByteArray) (hs:s.size<=1000) (i:Nat) (h:Int):Good (rn ⟨117,0,0⟩ [.str s,.sl code,.int (i:Int),.int h]) (DRu code s):=by
 have W:∀ {m:Nat} {t:Tm},Wn m t->m<=3000->Wn 3000 t:=fun h hm=>h.mono hm
 have x1:Wn 1 (tV (⟨#[88]⟩:ByteArray)):=wn_V (by decide)
 have n1:Wn 1 (tV (⟨#[78]⟩:ByteArray)):=wn_V (by decide)
 have y1:Wn 1 (tV (⟨#[89]⟩:ByteArray)):=wn_V (by decide)
 have m1:Wn 1 (tV (⟨#[77]⟩:ByteArray)):=wn_V (by decide)
 have a1:Wn 1 (tC (⟨#[97]⟩:ByteArray)):=wn_C (by decide)
 have b1:Wn 1 (tC (⟨#[98]⟩:ByteArray)):=wn_C (by decide)
 rw [e117_0_0];simp only [vV,nv0,nvS,dvI,dvB,dvS,dvL,B5];refine Good.bind (below_ok hl _ _ (by decide) (by decide)) ?_
 rintro _ ⟨b,i,h,b0,b1',rfl⟩
 simp only [vV,vO,vP,vW,vC,nv0,nvS,dvI,dvB,dvS,dvL,B5];refine Good.ite (fun _=>?_) (fun _=>?_)
 · skip
   refine Good.bind (once_ok hl _ _ (by decide) (by decide)) ?_
   rintro _ ⟨q,i,h,rfl⟩
   simp only [nv0,nvS,dvI,dvB,dvS,dvL,B5];refine Good.ite (fun _=>?_) (fun _=>?_)
   · refine Good.bind (guard_ok hl _ _) ?_
     rintro _ ⟨g,i,h,hg,rfl⟩
     have hb63:E9 1 M63=true:=by decide
     simp only [nv0,nvS,dvI,dvB,dvS,dvL,B5,C1,C7,D2,hb63,H1];exact Good.ret ⟨⟨s,tO (⟨#[103]⟩:ByteArray) (tV (⟨#[88]⟩:ByteArray)),tV (⟨#[88]⟩:ByteArray),[g]⟩,i,h,rfl,⟨hs,W (wn_O (by decide) x1) (by decide),W x1 (by decide),by simp,by simp [hg]⟩,rfl⟩
   · exact Good.ret ⟨⟨s,tO (⟨#[103]⟩:ByteArray) (tV (⟨#[88]⟩:ByteArray)),tV (⟨#[88]⟩:ByteArray),[]⟩,i,h,rfl,⟨hs,W (wn_O (by decide) x1) (by decide),W x1 (by decide),by simp,by simp⟩,rfl⟩
 refine Good.ite (fun _=>?_) (fun _=>?_)
 · skip
   have hp:=pickT_ok hl i h [tV (⟨#[88]⟩:ByteArray),tV (⟨#[89]⟩:ByteArray),tC (⟨#[97]⟩:ByteArray)] (by decide) (by decide)
   simp only [C6,D4,Tm.row_eq] at hp;refine Good.bind hp ?_
   rintro _ ⟨t,i,h,ht,rfl⟩
   have hw:Wn 3000 t:=by
    simp only [E4,Q8,or_false] at ht;rcases ht with rfl | rfl | rfl
    · exact W x1 (by decide)
    · exact W y1 (by decide)
    · exact W a1 (by decide)
   simp only [nv0,nvS,dvI,dvB,dvS,dvL,B5];refine Good.bind (once_ok hl _ _ (by decide) (by decide)) ?_
   rintro _ ⟨q,i,h,rfl⟩
   simp only [nv0,nvS,dvI,dvB,dvS,dvL,B5];refine Good.ite (fun _=>?_) (fun _=>?_)
   · refine Good.bind (guard_ok hl _ _) ?_
     rintro _ ⟨g,i,h,hg,rfl⟩
     have hb63:E9 1 M63=true:=by decide
     simp only [nv0,nvS,dvI,dvB,dvS,dvL,B5,C1,C7,D2,hb63,H1];exact Good.ret ⟨⟨s,tP (⟨#[102]⟩:ByteArray) (tV (⟨#[88]⟩:ByteArray)) (tV (⟨#[89]⟩:ByteArray)),t,[g]⟩,i,h,rfl,⟨hs,W (wn_P (by decide) x1 y1) (by decide),hw,by simp,by simp [hg]⟩,rfl⟩
   · exact Good.ret ⟨⟨s,tP (⟨#[102]⟩:ByteArray) (tV (⟨#[88]⟩:ByteArray)) (tV (⟨#[89]⟩:ByteArray)),t,[]⟩,i,h,rfl,⟨hs,W (wn_P (by decide) x1 y1) (by decide),hw,by simp,by simp⟩,rfl⟩
 refine Good.ite (fun _=>?_) (fun _=>?_)
 · skip
   have hg0:GuW ⟨3,tW 0,tV (⟨#[78]⟩:ByteArray)⟩:=⟨by show (0:Int)<=3/\(3:Int)<=5; decide,W (wn_W (by decide) (by decide)) (by decide),W n1 (by decide)⟩
   refine Good.bind (once_ok hl _ _ (by decide) (by decide)) ?_
   rintro _ ⟨q,i,h,rfl⟩
   simp only [nv0,nvS,dvI,dvB,dvS,dvL,B5];refine Good.ite (fun _=>?_) (fun _=>?_)
   · refine Good.bind (guard_ok hl _ _) ?_
     rintro _ ⟨g,i,h,hg,rfl⟩
     have hb63:E9 (1+1) M63=true:=by decide
     simp only [nv0,nvS,dvI,dvB,dvS,dvL,B5,C1,C7,D2,hb63,H1];exact Good.ret ⟨⟨s,tP (⟨#[104]⟩:ByteArray) (tV (⟨#[88]⟩:ByteArray)) (tV (⟨#[78]⟩:ByteArray)),tP (⟨#[104]⟩:ByteArray) (tV (⟨#[88]⟩:ByteArray)) (tP (⟨#[109,105,110,117,115]⟩:ByteArray) (tV (⟨#[78]⟩:ByteArray)) (tW 1)),[⟨3,tW 0,tV (⟨#[78]⟩:ByteArray)⟩,g]⟩,i,h,rfl,⟨hs,W (wn_P (by decide) x1 n1) (by decide),W (wn_P (by decide) x1 (wn_P (by decide) n1 (wn_W (by decide) (by decide)))) (by decide),by simp,by simp [hg,hg0]⟩,rfl⟩
   · exact Good.ret ⟨⟨s,tP (⟨#[104]⟩:ByteArray) (tV (⟨#[88]⟩:ByteArray)) (tV (⟨#[78]⟩:ByteArray)),tP (⟨#[104]⟩:ByteArray) (tV (⟨#[88]⟩:ByteArray)) (tP (⟨#[109,105,110,117,115]⟩:ByteArray) (tV (⟨#[78]⟩:ByteArray)) (tW 1)),[⟨3,tW 0,tV (⟨#[78]⟩:ByteArray)⟩]⟩,i,h,rfl,⟨hs,W (wn_P (by decide) x1 n1) (by decide),W (wn_P (by decide) x1 (wn_P (by decide) n1 (wn_W (by decide) (by decide)))) (by decide),by simp,by simp [hg0]⟩,rfl⟩
 refine Good.ite (fun _=>?_) (fun _=>?_)
 · skip
   refine Good.bind (once_ok hl _ _ (by decide) (by decide)) ?_
   rintro _ ⟨q,i,h,rfl⟩
   simp only [nv0,nvS,dvI,dvB,dvS,dvL,B5];refine Good.ite (fun _=>?_) (fun _=>?_)
   · refine Good.bind (guard_ok hl _ _) ?_
     rintro _ ⟨g,i,h,hg,rfl⟩
     have hb63:E9 1 M63=true:=by decide
     simp only [nv0,nvS,dvI,dvB,dvS,dvL,B5,C1,C7,D2,hb63,H1];exact Good.ret ⟨⟨s,tP (⟨#[104]⟩:ByteArray) (tV (⟨#[88]⟩:ByteArray)) (tW 0),tV (⟨#[88]⟩:ByteArray),[g]⟩,i,h,rfl,⟨hs,W (wn_P (by decide) x1 (wn_W (by decide) (by decide))) (by decide),W x1 (by decide),by simp,by simp [hg]⟩,rfl⟩
   · exact Good.ret ⟨⟨s,tP (⟨#[104]⟩:ByteArray) (tV (⟨#[88]⟩:ByteArray)) (tW 0),tV (⟨#[88]⟩:ByteArray),[]⟩,i,h,rfl,⟨hs,W (wn_P (by decide) x1 (wn_W (by decide) (by decide))) (by decide),W x1 (by decide),by simp,by simp⟩,rfl⟩
 refine Good.ite (fun _=>?_) (fun _=>?_)
 · skip
   refine Good.bind (pick_ok hl _ _ (by decide) (by decide) 8 (by decide)) ?_
   rintro _ ⟨z,i,h,hz,rfl⟩
   simp only [vV,vO,vP,vW,vC,nv0,nvS,dvI,dvB,dvS,dvL,B5];refine Good.bind (once_ok hl _ _ (by decide) (by decide)) ?_
   rintro _ ⟨q,i,h,rfl⟩
   simp only [nv0,nvS,dvI,dvB,dvS,dvL,B5];refine Good.ite (fun _=>?_) (fun _=>?_)
   · refine Good.bind (guard_ok hl _ _) ?_
     rintro _ ⟨g,i,h,hg,rfl⟩
     have hb63:E9 1 M63=true:=by decide
     simp only [nv0,nvS,dvI,dvB,dvS,dvL,B5,C1,C7,D2,hb63,H1];exact Good.ret ⟨⟨s,tP (⟨#[102]⟩:ByteArray) (tO (⟨#[110,117,109]⟩:ByteArray) (tV (⟨#[78]⟩:ByteArray))) (tO (⟨#[110,117,109]⟩:ByteArray) (tV (⟨#[77]⟩:ByteArray))),tO (⟨#[110,117,109]⟩:ByteArray) (tP z (tV (⟨#[78]⟩:ByteArray)) (tV (⟨#[77]⟩:ByteArray))),[g]⟩,i,h,rfl,⟨hs,W (wn_P (by decide) (wn_O (by decide) n1) (wn_O (by decide) m1)) (by decide),W (wn_O (by decide) (wn_P (by omega) n1 m1)) (by decide),by simp,by simp [hg]⟩,rfl⟩
   · exact Good.ret ⟨⟨s,tP (⟨#[102]⟩:ByteArray) (tO (⟨#[110,117,109]⟩:ByteArray) (tV (⟨#[78]⟩:ByteArray))) (tO (⟨#[110,117,109]⟩:ByteArray) (tV (⟨#[77]⟩:ByteArray))),tO (⟨#[110,117,109]⟩:ByteArray) (tP z (tV (⟨#[78]⟩:ByteArray)) (tV (⟨#[77]⟩:ByteArray))),[]⟩,i,h,rfl,⟨hs,W (wn_P (by decide) (wn_O (by decide) n1) (wn_O (by decide) m1)) (by decide),W (wn_O (by decide) (wn_P (by omega) n1 m1)) (by decide),by simp,by simp⟩,rfl⟩
 refine Good.ite (fun _=>?_) (fun _=>?_)
 · skip
   refine Good.bind (once_ok hl _ _ (by decide) (by decide)) ?_
   rintro _ ⟨q,i,h,rfl⟩
   simp only [nv0,nvS,dvI,dvB,dvS,dvL,B5];refine Good.ite (fun _=>?_) (fun _=>?_)
   · refine Good.bind (guard_ok hl _ _) ?_
     rintro _ ⟨g,i,h,hg,rfl⟩
     have hb63:E9 1 M63=true:=by decide
     simp only [nv0,nvS,dvI,dvB,dvS,dvL,B5,C1,C7,D2,hb63,H1];exact Good.ret ⟨⟨s,tO (⟨#[103]⟩:ByteArray) (tO (⟨#[110,117,109]⟩:ByteArray) (tV (⟨#[78]⟩:ByteArray))),tP (⟨#[104]⟩:ByteArray) (tC (⟨#[98]⟩:ByteArray)) (tV (⟨#[78]⟩:ByteArray)),[g]⟩,i,h,rfl,⟨hs,W (wn_O (by decide) (wn_O (by decide) n1)) (by decide),W (wn_P (by decide) b1 n1) (by decide),by simp,by simp [hg]⟩,rfl⟩
   · exact Good.ret ⟨⟨s,tO (⟨#[103]⟩:ByteArray) (tO (⟨#[110,117,109]⟩:ByteArray) (tV (⟨#[78]⟩:ByteArray))),tP (⟨#[104]⟩:ByteArray) (tC (⟨#[98]⟩:ByteArray)) (tV (⟨#[78]⟩:ByteArray)),[]⟩,i,h,rfl,⟨hs,W (wn_O (by decide) (wn_O (by decide) n1)) (by decide),W (wn_P (by decide) b1 n1) (by decide),by simp,by simp⟩,rfl⟩
 refine Good.ite (fun _=>?_) (fun _=>?_)
 · skip
   have hp:=pickT_ok hl i h [tC (⟨#[98]⟩:ByteArray),tO (⟨#[110,117,109]⟩:ByteArray) (tW 2)] (by decide) (by decide)
   simp only [C6,D4,Tm.row_eq] at hp;refine Good.bind hp ?_
   rintro _ ⟨t,i,h,ht,rfl⟩
   have hw:Wn 3000 t:=by
    simp only [E4,Q8,or_false] at ht;rcases ht with rfl | rfl
    · exact W b1 (by decide)
    · exact W (wn_O (by decide) (wn_W (by decide) (by decide))) (by decide)
   simp only [nv0,nvS,dvI,dvB,dvS,dvL,B5];refine Good.bind (once_ok hl _ _ (by decide) (by decide)) ?_
   rintro _ ⟨q,i,h,rfl⟩
   simp only [nv0,nvS,dvI,dvB,dvS,dvL,B5];refine Good.ite (fun _=>?_) (fun _=>?_)
   · refine Good.bind (guard_ok hl _ _) ?_
     rintro _ ⟨g,i,h,hg,rfl⟩
     have hb63:E9 1 M63=true:=by decide
     simp only [nv0,nvS,dvI,dvB,dvS,dvL,B5,C1,C7,D2,hb63,H1];exact Good.ret ⟨⟨s,tC (⟨#[97]⟩:ByteArray),t,[g]⟩,i,h,rfl,⟨hs,W a1 (by decide),hw,by simp,by simp [hg]⟩,rfl⟩
   · exact Good.ret ⟨⟨s,tC (⟨#[97]⟩:ByteArray),t,[]⟩,i,h,rfl,⟨hs,W a1 (by decide),hw,by simp,by simp⟩,rfl⟩
 refine Good.ite (fun _=>?_) (fun _=>?_)
 · skip
   refine Good.bind (once_ok hl _ _ (by decide) (by decide)) ?_
   rintro _ ⟨q,i,h,rfl⟩
   simp only [nv0,nvS,dvI,dvB,dvS,dvL,B5];refine Good.ite (fun _=>?_) (fun _=>?_)
   · refine Good.bind (guard_ok hl _ _) ?_
     rintro _ ⟨g,i,h,hg,rfl⟩
     have hb63:E9 1 M63=true:=by decide
     simp only [nv0,nvS,dvI,dvB,dvS,dvL,B5,C1,C7,D2,hb63,H1];exact Good.ret ⟨⟨s,tP (⟨#[102]⟩:ByteArray) (tV (⟨#[88]⟩:ByteArray)) (tV (⟨#[88]⟩:ByteArray)),tO (⟨#[103]⟩:ByteArray) (tV (⟨#[88]⟩:ByteArray)),[g]⟩,i,h,rfl,⟨hs,W (wn_P (by decide) x1 x1) (by decide),W (wn_O (by decide) x1) (by decide),by simp,by simp [hg]⟩,rfl⟩
   · exact Good.ret ⟨⟨s,tP (⟨#[102]⟩:ByteArray) (tV (⟨#[88]⟩:ByteArray)) (tV (⟨#[88]⟩:ByteArray)),tO (⟨#[103]⟩:ByteArray) (tV (⟨#[88]⟩:ByteArray)),[]⟩,i,h,rfl,⟨hs,W (wn_P (by decide) x1 x1) (by decide),W (wn_O (by decide) x1) (by decide),by simp,by simp⟩,rfl⟩
 refine Good.bind (termN hl 3 _ rfl 512 (by decide) (by decide) _ _ _) ?_
 rintro _ ⟨t,i,h,ht,htn,rfl⟩
 simp only [nv0,nvS,dvI,dvB,dvS,dvL,B5];refine Good.bind (termN hl 2 _ rfl 128 (by decide) (by decide) _ _ _) ?_
 rintro _ ⟨u,i,h,hu,hun,rfl⟩
 simp only [nv0,nvS,dvI,dvB,dvS,dvL,B5];refine Good.bind (once_ok hl _ _ (by decide) (by decide)) ?_
 rintro _ ⟨q,i,h,rfl⟩
 simp only [nv0,nvS,dvI,dvB,dvS,dvL,B5];refine Good.ite (fun _=>?_) (fun _=>?_)
 · refine Good.bind (guard_ok hl _ _) ?_
   rintro _ ⟨g,i,h,hg,rfl⟩
   have hb63:E9 1 M63=true:=by decide
   simp only [nv0,nvS,dvI,dvB,dvS,dvL,B5,C1,C7,D2,hb63,H1];exact Good.ret ⟨⟨s,t,u,[g]⟩,i,h,rfl,⟨hs,ht.wn (by decide) (by show t.nodes<=_; omega),hu.wn (by decide) (by show u.nodes<=_; omega),by simp,by simp [hg]⟩,rfl⟩
 · exact Good.ret ⟨⟨s,t,u,[]⟩,i,h,rfl,⟨hs,ht.wn (by decide) (by show t.nodes<=_; omega),hu.wn (by decide) (by show u.nodes<=_; omega),by simp,by simp⟩,rfl⟩
theorem fmt_ok (n:Nat) (hn:n<10):∃ s:ByteArray,s.size<=2/\rn ⟨118,0,0⟩ [.int (n:Int)]=some (0,[.str s]):=by
 rw [e118_0_0];by_cases h0:n=0
 · subst h0; exact ⟨_,by decide,rfl⟩
 have e0:¬(n:Int)=0:=by omega
 rw [H8 e0,H8 (by omega:¬(n:Int)<0)]
 simp only [H2];have hm:Int.tmod (n:Int) 10=(n:Int):=Int.tmod_eq_of_lt (by omega) (by omega)
 have hd:Int.tdiv (n:Int) 10=0:=Int.tdiv_eq_zero_of_lt (by omega) (by omega)
 have hl:∀ s:ByteArray,rn ⟨118,0,1⟩ [.int 0,.bool false,.str s]=some (0,[.bool false,.str s]):=fun s=>by
  rw [e118_0_1]; rfl
 have h1:∃ s:ByteArray,s.size<=2/\rn ⟨118,0,1⟩ [.int (n:Int),.bool false,.str ⟨#[]⟩]=some (0,[.bool false,.str s]):=by
  rw [e118_0_1];rw [H8 e0,hm,hd,H8 (by omega:¬(n:Int)<0)]
  have hw:IntKind.i64.wrap 0=0:=rfl;simp only [K0,H1,H2,show decide ((10:Int)=0)=false from rfl,hw,hl]
  refine ⟨_,?_,by rw [H7 (by show _<=i64max; unfold i64max; simp [bytesOf,ByteArray.size])]; rfl⟩
  rw [ByteArray.size_append]; simp [bytesOf,ByteArray.size]
 obtain ⟨s,h2,e⟩:=h1;exact ⟨s,h2,by rw [e]; rfl⟩
def DDf (code:Rows) (x:Nat × List D):Prop:=∃ d:DfM,∃ i':Nat,∃ h':Int,DfW d/\x=(0,[.sl code,.int (i':Int),.int h',.sl (d.so.map sRow),.sl (d.op.map OpM.row),.sl (d.ru.map RuM.row),.sl (d.st.map StM.row)])
theorem ddef_ok {code:Rows} (hl:code.length<=1048576) (i:Nat) (h:Int):Good (rn ⟨60,0,0⟩ [.sl code,.int (i:Int),.int h]) (DDf code):=by
 have hso:baseSo.length<=10:=by decide
 have hop:baseOp.length<=10:=by decide
 have hsig:SigB baseOp:=⟨by decide,fun o ho=>by have:=(baseOp_ok o ho).2.1; show o.a.length<=_; omega⟩
 have k1:∀ (m j:Nat) (b:Int),b<=5->(j:Int)+m=b->∀ (i:Nat) (h:Int) (R:List RuM),R.length<=j->(∀ r∈R,RuW r)->∃ R':List RuM,∃ i':Nat,∃ h':Int,R'.length<=5/\(∀ r∈R',RuW r) ∧
  rn ⟨60,0,1⟩ [.int b,.int (j:Int),.sl code,.int (i:Int),.int h,.sl [],.sl [],.sl [],.sl [],.sl (baseSo.map sRow),.sl (baseOp.map OpM.row),.sl (R.map RuM.row),.sl []]=some (0,[.sl code,.int (i':Int),.int h',.sl [],.sl [],.sl [],.sl [],.sl (baseSo.map sRow),.sl (baseOp.map OpM.row),.sl (R'.map RuM.row),.sl []]):=by
  intro m;induction m with
  | zero =>
   intro j b hb hj i h R hR hRa;rw [e60_0_1,H8 (by omega:¬(j:Int)<b)]
   exact ⟨R,i,h,by omega,hRa,rfl⟩
  | succ m ih =>
   intro j b hb hj i h R hR hRa;rw [e60_0_1,H7 (by omega:(j:Int)<b)]
   obtain ⟨s,hs,e1⟩:=fmt_ok j (by omega)
   have hsz:((⟨#[114]⟩:ByteArray)++s).size<=1000:=by rw [ByteArray.size_append]; show 1+s.size<=1000; omega
   have hi:decide ((⟨#[114]⟩:ByteArray).size+s.size<=i64max)=true:=H7 (by show 1+s.size<=i64max; unfold i64max; omega)
   obtain ⟨_,e2,r,i',h',hn,hr,rfl⟩:=rule_ok hl ((⟨#[114]⟩:ByteArray)++s) hsz i h;have e3:=r88 (baseSo.map sRow) baseOp hsig r hr.b;have hb63:E9 (R.length+1) M63=true:=nb (by omega)
   have ew:IntKind.i64.wrap ((j:Int)+1)=((j+1:Nat):Int):=by rw [IntWalk.i64_in _ (by omega)]; omega
   simp only [H1,e1,nv0,nvS,dvI,dvB,dvS,dvL,B5,hi,e2,e3,B6,C1,C7,D2,hb63,ew];cases rulOK baseOp r with
   | true =>
    obtain ⟨R',i2,h2,q1,q2,q3⟩:=ih (j+1) b hb (by omega) i' h' (R++[r]) (by simp; omega) (fun x hx=>by
     rcases D0.1 hx with hx | hx
     · exact hRa x hx
     · rw [D3.1 hx]; exact hr)
    simp only [D6,C6,D4,RuM.row] at q3;exact ⟨R',i2,h2,q1,q2,q3⟩
   | false =>
    exact ih (j+1) b hb (by omega) i' h' R (by omega) hRa
 have k2:∀ (R:List RuM),R.length<=5->(∀ r∈R,RuW r)->∀ (m j:Nat) (b:Int),b<=5->(j:Int)+m=b->∀ (i:Nat) (h:Int) (S:List StM),S.length<=j->∃ S':List StM,∃ i':Nat,∃ h':Int,S'.length<=5 ∧
  rn ⟨60,0,3⟩ [.int b,.int (j:Int),.sl code,.int (i:Int),.int h,.sl [],.sl [],.sl [],.sl [],.sl (baseSo.map sRow),.sl (baseOp.map OpM.row),.sl (R.map RuM.row),.sl (S.map StM.row)]=some (0,[.sl code,.int (i':Int),.int h',.sl [],.sl [],.sl [],.sl [],.sl (baseSo.map sRow),.sl (baseOp.map OpM.row),.sl (R.map RuM.row),.sl (S'.map StM.row)]):=by
  intro R hR hRa m;induction m with
  | zero =>
   intro j b hb hj i h S hS;rw [e60_0_3,H8 (by omega:¬(j:Int)<b)]
   exact ⟨S,i,h,by omega,rfl⟩
  | succ m ih =>
   intro j b hb hj i h S hS;rw [e60_0_3,H7 (by omega:(j:Int)<b)]
   simp only [H1];obtain ⟨_,e1,s,i1,h1,hs,rfl⟩:=pick_ok hl i h (l:=[[.str ⟨#[102]⟩],[.str ⟨#[102]⟩],[.str ⟨#[103]⟩],[.str ⟨#[104]⟩],[.str ⟨#[116,111,112]⟩]]) (by decide) (by decide) 8 (by decide)
   obtain ⟨_,e2,n,i2,h2,n0,n1,rfl⟩:=below_ok hl i1 h1 (n:=2) (by decide) (by decide)
   have hdf:DfW ⟨baseSo,baseOp,R,S++[⟨s,n⟩]⟩:=⟨hso,baseSo_ok,hop,baseOp_ok,by show R.length<=10; omega,hRa,by show (S++[_]).length<=10; simp; omega⟩
   have e3:=r42 _ hdf.b;have hb63:E9 (S.length+1) M63=true:=nb (by omega)
   have ew:IntKind.i64.wrap ((j:Int)+1)=((j+1:Nat):Int):=by rw [IntWalk.i64_in _ (by omega)]; omega
   simp only [D6,C6,D4,StM.row] at e3;simp only [e1,e2,nv0,nvS,dvI,dvB,dvS,dvL,B5,e3,B6,E0,C1,C7,D2,hb63,ew,H1];cases DfM.valid ⟨baseSo,baseOp,R,S++[⟨s,n⟩]⟩ with
   | true =>
    obtain ⟨S',i3,h3,q1,q2⟩:=ih (j+1) b hb (by omega) i2 h2 (S++[⟨s,n⟩]) (by simp; omega)
    simp only [D6,C6,D4,StM.row] at q2;exact ⟨S',i3,h3,q1,q2⟩
   | false =>
    have ew2:IntKind.i64.wrap (((S.length+1:Nat):Int)-1)=(S.length:Int):=by rw [IntWalk.i64_in _ (by omega)]; omega
    have ed:(decide ((0:Int)<=(S.length:Int))&&decide ((S.length:Int)<=((S.length+1:Nat):Int)))=true:=by simp; omega
    have etk:(S.map StM.row++[[D.str s,.int n]]).take (O5 (S.length:Int))=S.map StM.row:=by
     have e:S.length=(S.map StM.row).length:=(B6 ..).symm;rw [B8,e,List.take_left]
    simp only [K0,H1,ew2,ed,etk];exact ih (j+1) b hb (by omega) i2 h2 S (by omega)
 have hbase:rn ⟨116,0,0⟩ []=some (0,[.sl (baseSo.map sRow),.sl (baseOp.map OpM.row)]):=by rw [e116_0_0]; rfl
 rw [e60_0_0];simp only [hbase,nv0,nvS,dvI,dvB,dvS,dvL,B5];refine Good.bind (below_ok hl _ _ (by decide) (by decide)) ?_
 rintro _ ⟨b,i,h,b0,b1,rfl⟩
 simp only [nv0,nvS,dvI,dvB,dvS,dvL,B5];have ew:IntKind.i64.wrap (1+b)=1+b:=IntWalk.i64_in _ (by omega)
 obtain ⟨R,i1,h1,q1,q2,q3⟩:=k1 (1+b).toNat 0 (1+b) (by omega) (by omega) i h [] (F9 _) (by simp)
 simp only [C3,D4] at q3;simp only [ew,q3,nv0,nvS,dvI,dvB,dvS,dvL,B5,E1,H1,H2];refine Good.bind (below_ok hl _ _ (by decide) (by decide)) ?_
 rintro _ ⟨c,i,h,c0,c1,rfl⟩
 simp only [nv0,nvS,dvI,dvB,dvS,dvL,B5];obtain ⟨S,i2,h2,p1,p2⟩:=k2 R q1 q2 c.toNat 0 c (by omega) (by omega) i h [] (F9 _)
 simp only [C3,D4] at p2;simp only [p2,nv0,nvS,dvI,dvB,dvS,dvL,B5,E1,H1,H2];exact Good.ret ⟨⟨baseSo,baseOp,R,S⟩,i2,h2,⟨hso,baseSo_ok,hop,baseOp_ok,by show R.length<=10; omega,q2,by show S.length<=10; omega⟩,rfl⟩
theorem take_strs (k:Nat) (l:List ByteArray):(((l.map sRow).take k).drop (O5 0))=(l.take k).map sRow:=by
 show ((l.map sRow).take k).drop 0=_
 rw [D1,List.map_take]
def eL:List ByteArray:=[⟨#[101]⟩,⟨#[101]⟩,⟨#[101]⟩,⟨#[101]⟩]
theorem eL_rows:([[.str (⟨#[101]⟩:ByteArray)],[.str (⟨#[101]⟩:ByteArray)],[.str (⟨#[101]⟩:ByteArray)],[.str (⟨#[101]⟩:ByteArray)]]:Rows)=eL.map sRow:=rfl
theorem sbent_ok {code:Rows} (hl:code.length<=1048576) (i:Nat) (h:Int):Good (rn ⟨120,0,0⟩ [.sl code,.int (i:Int),.int h]) fun x=>∃ so:List ByteArray,∃ op:List OpM,∃ i':Nat,∃ h':Int,so.length<=10/\(∀ x∈so,x.size<=1000)/\op.length<=10/\(∀ o∈op,o.n.size<=1000/\o.a.length<=10/\(∀ x∈o.a,x.size<=1000)/\o.r.size<=1000)/\x=(0,[.sl code,.int (i':Int),.int h',.sl (so.map sRow),.sl (op.map OpM.row)]):=by
 have hso:baseSo.length<=10:=by decide
 have hop:baseOp.length<=10:=by decide
 have hbase:rn ⟨116,0,0⟩ []=some (0,[.sl (baseSo.map sRow),.sl (baseOp.map OpM.row)]):=by rw [e116_0_0]; rfl
 rw [e120_0_0];simp only [hbase,nv0,nvS,dvI,dvB,dvS,dvL,B5];refine Good.bind (below_ok hl _ _ (by decide) (by decide)) ?_
 rintro _ ⟨b,i,h,b0,b1,rfl⟩
 simp only [nv0,nvS,dvI,dvB,dvS,dvL,B5];refine Good.ite (fun _=>?_) (fun _=>?_)
 · refine Good.bind (pick_ok hl _ _ (by decide) (by decide) 8 (by decide)) ?_
   rintro _ ⟨s,i,h,hs,rfl⟩
   have hb63:E9 (baseSo.length+1) M63=true:=nb (by omega)
   simp only [nv0,nvS,dvI,dvB,dvS,dvL,B5,B6,C1,C7,D2,hb63,H1];refine Good.ret ⟨baseSo++[s],baseOp,i,h,by simp [baseSo],fun x hx=>?_,hop,baseOp_ok,by rw [D6]; rfl⟩
   rcases D0.1 hx with hx | hx
   · exact baseSo_ok x hx
   · rw [D3.1 hx]; omega
 refine Good.ite (fun _=>?_) (fun _=>?_)
 · refine Good.bind (pick_ok hl _ _ (by decide) (by decide) 8 (by decide)) ?_
   rintro _ ⟨s,i,h,hs,rfl⟩
   simp only [nv0,nvS,dvI,dvB,dvS,dvL,B5];refine Good.bind (below_ok hl _ _ (by decide) (by decide)) ?_
   rintro _ ⟨c,i,h,c0,c1,rfl⟩
   simp only [nv0,nvS,dvI,dvB,dvS,dvL,B5];obtain ⟨k,rfl⟩:=T3 c0;have hk:k<=4:=by omega
   have ed:(decide ((0:Int)<=0)&&(decide ((0:Int)<=(k:Int))&&decide ((k:Int)<=(([[.str (⟨#[101]⟩:ByteArray)],[.str (⟨#[101]⟩:ByteArray)],[.str (⟨#[101]⟩:ByteArray)],[.str (⟨#[101]⟩:ByteArray)]]:Rows).length:Int))))=true:=by
    simp; omega
   rw [ed];simp only [H1];refine Good.bind (pick_ok hl _ _ (by decide) (by decide) 8 (by decide)) ?_
   rintro _ ⟨z,i,h,hz,rfl⟩
   have hb63:E9 (baseOp.length+1) M63=true:=nb (by omega)
   simp only [nv0,nvS,dvI,dvB,dvS,dvL,B5,B6,C1,C7,D2,hb63,H1,eL_rows,B8,take_strs];refine Good.ret ⟨baseSo,baseOp++[⟨s,eL.take k,z⟩],i,h,hso,baseSo_ok,by simp [baseOp],fun o ho=>?_,by rw [D6]; rfl⟩
   rcases D0.1 ho with ho | ho
   · exact baseOp_ok o ho
   · rw [D3.1 ho]
     refine ⟨by show s.size<=1000; omega,by show (eL.take k).length<=10; rw [Q0]; omega,fun x hx=>?_,by show z.size<=1000; omega⟩
     have hx':x∈eL:=List.mem_of_mem_take hx;have:=E6.1 (show eL.all (fun x=>decide (x.size<=1000))=true from by decide) x hx'
     simpa using this
 refine Good.ite (fun _=>?_) (fun _=>?_)
 · have e:over (O5 0) [over 1 [D.sl [[D.str ⟨#[122,122]⟩]]] (rowAt (baseOp.map OpM.row) (O5 0))] (baseOp.map OpM.row)=((⟨⟨#[97]⟩,[⟨#[122,122]⟩],⟨#[101]⟩⟩:OpM)::baseOp.drop 1).map OpM.row:=rfl
   have ei:inb 0 (baseOp.map OpM.row).length=true:=rfl;rw [e,ei];simp only [H1];refine Good.ret ⟨baseSo,_,i,h,hso,baseSo_ok,by decide,fun o ho=>?_,rfl⟩
   rcases E4.1 ho with rfl | ho
   · exact opW_ok (by decide)
   · exact baseOp_ok o (List.mem_of_mem_drop ho)
 · exact Good.ret ⟨baseSo,baseOp,i,h,hso,baseSo_ok,hop,baseOp_ok,rfl⟩
theorem dbent_ok {code:Rows} (hl:code.length<=1048576) (i:Nat) (h:Int):Good (rn ⟨62,0,0⟩ [.sl code,.int (i:Int),.int h]) fun x=>∃ d:DfM,∃ i':Nat,∃ h':Int,DfB d/\x=(0,[.sl code,.int (i':Int),.int h',.sl (d.so.map sRow),.sl (d.op.map OpM.row),.sl (d.ru.map RuM.row),.sl (d.st.map StM.row)]):=by
 rw [e62_0_0];refine Good.bind (ddef_ok hl _ _) ?_
 rintro _ ⟨d,i,h,hd,rfl⟩
 simp only [nv0,nvS,dvI,dvB,dvS,dvL,B5];refine Good.bind (below_ok hl _ _ (by decide) (by decide)) ?_
 rintro _ ⟨b,i,h,b0,b1,rfl⟩
 simp only [nv0,nvS,dvI,dvB,dvS,dvL,B5];refine Good.ite (fun _=>?_) (fun _=>?_)
 · refine Good.bind (sbent_ok hl _ _) ?_
   rintro _ ⟨so,op,i,h,s1,s2,s3,s4,rfl⟩
   have hd2:DfW ⟨so,op,d.ru,d.st⟩:=⟨s1,s2,s3,s4,hd.ru,hd.rua,hd.st⟩;exact Good.ret ⟨_,i,h,hd2.b,rfl⟩
 refine Good.ite (fun _=>?_) (fun _=>?_)
 · refine Good.bind (pick_ok hl _ _ (by decide) (by decide) 8 (by decide)) ?_
   rintro _ ⟨s,i,h,hs,rfl⟩
   simp only [nv0,nvS,dvI,dvB,dvS,dvL,B5];refine Good.bind (bent_ok hl _ _) ?_
   rintro _ ⟨t,i,h,ht,rfl⟩
   simp only [nv0,nvS,dvI,dvB,dvS,dvL,B5];refine Good.bind (bent_ok hl _ _) ?_
   rintro _ ⟨u,i,h,hu,rfl⟩
   have hru:=hd.ru;have hb63:E9 (d.ru.length+1) M63=true:=nb (by omega)
   simp only [nv0,nvS,dvI,dvB,dvS,dvL,B5,B6,C1,C7,D2,hb63,H1];have hb:=hd.b;have hn:RuB ⟨s,t,u,[]⟩:=⟨by show s.size<=maxLen; unfold maxLen; omega,ht.w,hu.w,by have:=ht.n; show t.nodes<=_; omega,by have:=hu.n; show u.nodes<=_; omega,J9 _,by simp⟩
   refine Good.ret ⟨⟨d.so,d.op,d.ru++[⟨s,t,u,[]⟩],d.st⟩,i,h,⟨hb.so,hb.sos,hb.op,hb.opn,by show (d.ru++[_]).length<=_; simp; omega,fun r hr=>?_,hb.st⟩,by simp only [D6,C6,D4,RuM.row]⟩
   rcases D0.1 hr with hr | hr
   · exact hb.rua r hr
   · rw [D3.1 hr]; exact hn
 refine Good.ite (fun _=>?_) (fun _=>?_)
 · refine Good.bind (pick_ok hl _ _ (by decide) (by decide) 8 (by decide)) ?_
   rintro _ ⟨s,i,h,hs,rfl⟩
   simp only [nv0,nvS,dvI,dvB,dvS,dvL,B5];refine Good.bind (below_ok hl _ _ (by decide) (by decide)) ?_
   rintro _ ⟨c,i,h,c0,c1,rfl⟩
   have hst:=hd.st;have hb63:E9 (d.st.length+1) M63=true:=nb (by omega)
   simp only [nv0,nvS,dvI,dvB,dvS,dvL,B5,B6,C1,C7,D2,hb63,H1];have hb:=hd.b;exact Good.ret ⟨⟨d.so,d.op,d.ru,d.st++[⟨s,c⟩]⟩,i,h,⟨hb.so,hb.sos,hb.op,hb.opn,hb.ru,hb.rua,by show (d.st++[_]).length<=_; simp; omega⟩,by simp only [D6,C6,D4,StM.row]⟩
 · exact Good.ret ⟨d,i,h,hd.b,rfl⟩
end Go.Q.S
end
section
namespace Go.Q.S
open Go Go.Q Go.Proofs
def clB:List Bnd:=[(⟨#[88]⟩,tC ⟨#[97]⟩),(⟨#[89]⟩,tC ⟨#[98]⟩)]
theorem closed_ok (t:Tm) (ht:Wn 2048 t):∃ u:Tm,Wn 2048 u/\rn ⟨123,0,0⟩ [.int t.k,.int t.n,.str t.s,.sl (t.as.map Tm.row)]=some (0,[.int u.k,.int u.n,.str u.s,.sl (u.as.map Tm.row)]):=by
 have hw:∀ b∈clB,Wn 1 b.2:=fun b hb=>by
  simp only [clB,E4,Q8,or_false] at hb;rcases hb with rfl | rfl
  · exact wn_C (by decide)
  · exact wn_C (by decide)
 have h1:=r55 clB (by decide) (fun b hb=>(hw b hb).small (by decide)) t (ht.small (by decide))
 have h2:=aS_nodesM (l:=clB) (m:=1) (by decide) (fun b hb=>(hw b hb).n) t
 have h3:=ht.n;refine ⟨aS clB t,⟨wt_aS (fun b hb=>(hw b hb).w) t ht.w,by omega⟩,?_⟩
 simp only [clB,C6,D4,bd_row] at h1;rw [e123_0_0];simp only [vC,nv0,nvS,dvI,dvB,dvS,dvL,B5,h1];rfl
structure SyW (vl:List ByteArray) (tm:Tm) (cl:List Int):Prop where
 v:vl.length<=10
 vs:∀ x∈vl,x.size<=1000
 t:Wn 3000 tm
 c:cl.length<=100
 ci:∀ x∈cl,S.i64ok x
theorem SyW.b {v:List ByteArray} {t:Tm} {c:List Int} (h:SyW v t c) {d:DfM} (hd:DfB d):SyB ⟨d,v,t,c⟩ :=
 ⟨hd,by have:=h.v; show v.length<=_; omega,fun x hx=>by have:=h.vs x hx; unfold maxLen; omega,h.t.w,by have:=h.t.n; show t.nodes<=_; omega,by have:=h.c; show c.length<=_; omega⟩
def DSy (code:Rows) (x:Nat × List D):Prop:=∃ v:List ByteArray,∃ t:Tm,∃ c:List Int,∃ i':Nat,∃ h':Int,SyW v t c/\x=(0,[.int t.k,.int t.n,.str t.s,.sl code,.int (i':Int),.int h',.sl (v.map sRow),.sl (t.as.map Tm.row),.sl (c.map iRow)])
def nmL:List ByteArray:=[⟨#[78]⟩,⟨#[77]⟩]
theorem nmL_ok:∀ x∈nmL,x.size<=1000:=fun x hx=>by
 have:=E6.1 (show nmL.all (fun x=>decide (x.size<=1000))=true from by decide) x hx
 simpa using this
theorem nmL_rows:([[.str (⟨#[78]⟩:ByteArray)],[.str (⟨#[77]⟩:ByteArray)]]:Rows)=nmL.map sRow:=rfl
theorem cases_ok (gs:List Gu) (hg:∀ g∈gs,GuW g) (hn:gs.length<=10):∃ c:List Int,c.length<=100/\(∀ x∈c,S.i64ok x)/\rn ⟨126,0,0⟩ [.sl (nmL.map sRow),.sl (gs.map Gu.row)]=some (0,[.sl (c.map iRow)]):=by
 have h1:=r126 nmL gs (by omega) (fun g h=>⟨(hg g h).b.ln,(hg g h).b.rn⟩)
 have h2:=allC_len nmL gs;refine ⟨(allC nmL gs).map (fun n:Nat=>(n:Int)),by rw [B6]; omega,fun x hx=>?_,?_⟩
 · obtain ⟨n,hn,rfl⟩:=List.mem_map.1 hx
   exact allC_ok nmL gs n hn
 · rw [h1,List.map_map]; rfl
theorem dsym_ok {code:Rows} (hl:code.length<=1048576) (i:Nat) (h:Int):Good (rn ⟨64,0,0⟩ [.sl code,.int (i:Int),.int h]) (DSy code):=by
 rw [e64_0_0];refine Good.bind (below_ok hl _ _ (by decide) (by decide)) ?_
 rintro _ ⟨b,i,h,b0,b1,rfl⟩
 simp only [nv0,nvS,dvI,dvB,dvS,dvL,B5];have e:∃ d:Nat,IntKind.i64.wrap (2+b)=(d:Int)/\d<=4:=⟨(2+b).toNat,by rw [IntWalk.i64_in _ (by omega)]; omega,by omega⟩
 obtain ⟨d,e,hd⟩:=e;rw [e];have hp:4 ^ d<=4 ^ 4:=Nat.pow_le_pow_right (by decide) hd
 have hp4:4 ^ 4=256:=rfl;refine Good.bind (termN hl d _ rfl 2048 (by omega) (by omega) _ _ _) ?_
 rintro _ ⟨t,i,h,ht,htn,rfl⟩
 obtain ⟨u,hu,e1⟩:=closed_ok t (ht.wn (by decide) htn)
 have e2:=r54 u (hu.small (by decide))
 have hr:=wn_rW hu;simp only [nv0,nvS,dvI,dvB,dvS,dvL,B5,e1,e2];refine Good.bind (once_ok hl _ _ (by decide) (by decide)) ?_
 rintro _ ⟨q,i,h,rfl⟩
 simp only [nv0,nvS,dvI,dvB,dvS,dvL,B5];refine Good.ite (fun _=>?_) (fun _=>?_)
 · refine Good.bind (below_ok hl _ _ (by decide) (by decide)) ?_
   rintro _ ⟨b,i,h,b0,b1,rfl⟩
   simp only [vV,nv0,nvS,dvI,dvB,dvS,dvL,B5];have ew:IntKind.i64.wrap (1+b)=1+b:=IntWalk.i64_in _ (by omega)
   rw [ew];refine Good.bind (wordN hl 2 _ rfl 64 (by decide) (by decide) _ _ _) ?_
   rintro _ ⟨z,i,h,hz,hzn,rfl⟩
   have hg:GuW ⟨1+b,tV ⟨#[78]⟩,z⟩:=⟨by show 0<=1+b/\1+b<=5; omega,(wn_V (by decide)).mono (by decide),hz.wn (by decide) (by show z.nodes<=_; omega)⟩
   obtain ⟨c,c1,c2,c3⟩:=cases_ok [⟨1+b,tV ⟨#[78]⟩,z⟩] (by simpa using hg) (by simp)
   simp only [C6,D4,Gu.row] at c3;have hb63:E9 (0+1) M63=true:=by decide
   simp only [nv0,nvS,dvI,dvB,dvS,dvL,B5,C1,C7,hb63,H1,nmL_rows,E5,c3];exact Good.ret ⟨nmL,rW u,c,i,h,⟨by decide,nmL_ok,hr.mono (by decide),c1,c2⟩,rfl⟩
 · obtain ⟨c,c1,c2,c3⟩:=cases_ok [] (by simp) (by decide)
   simp only [D4] at c3;simp only [nmL_rows,c3,nv0,nvS,dvI,dvB,dvS,dvL,B5];exact Good.ret ⟨nmL,rW u,c,i,h,⟨by decide,nmL_ok,hr.mono (by decide),c1,c2⟩,rfl⟩
theorem dany_ok {code:Rows} (hl:code.length<=1048576) (i:Nat) (h:Int):Good (rn ⟨122,0,0⟩ [.sl code,.int (i:Int),.int h]) (DW code 3000):=by
 rw [e122_0_0];refine Good.bind (once_ok hl _ _ (by decide) (by decide)) ?_
 rintro _ ⟨q,i,h,rfl⟩
 simp only [nv0,nvS,dvI,dvB,dvS,dvL,B5];refine Good.ite (fun _=>?_) (fun _=>?_)
 · refine Good.bind (bent_ok hl _ _) ?_
   rintro _ ⟨u,i,h,hu,rfl⟩
   exact Good.ret ⟨u,i,h,hu.mono (by decide),rfl⟩
 · refine Good.bind (pick_ok hl _ _ (by decide) (by decide) 8 (by decide)) ?_
   rintro _ ⟨s,i,h,hs,rfl⟩
   simp only [nv0,nvS,dvI,dvB,dvS,dvL,B5];refine Good.bind (once_ok hl _ _ (by decide) (by decide)) ?_
   rintro _ ⟨q,i,h,rfl⟩
   simp only [nv0,nvS,dvI,dvB,dvS,dvL,B5];refine Good.bind (anyN hl s 4 _ rfl 2048 (by decide) (by decide) _ _ _) ?_
   rintro _ ⟨t,i,h,ht,htn,rfl⟩
   exact Good.ret ⟨t,i,h,ht.wn (by decide) (by omega),rfl⟩
theorem dsbent_ok {code:Rows} (hl:code.length<=1048576) (i:Nat) (h:Int):Good (rn ⟨63,0,0⟩ [.sl code,.int (i:Int),.int h]) fun x=>∃ v:List ByteArray,∃ t:Tm,∃ c:List Int,∃ i':Nat,∃ h':Int,v.length<=20/\(∀ x∈v,x.size<=1000)/\Wn 3000 t/\c.length<=200/\(∀ x∈c,S.i64ok x)/\x=(0,[.int t.k,.int t.n,.str t.s,.sl code,.int (i':Int),.int h',.sl (v.map sRow),.sl (t.as.map Tm.row),.sl (c.map iRow)]):=by
 rw [e63_0_0];refine Good.bind (dsym_ok hl _ _) ?_
 rintro _ ⟨v,t,c,i,h,hs,rfl⟩
 have h1:=hs.v;have h2:=hs.c;simp only [nv0,nvS,dvI,dvB,dvS,dvL,B5];refine Good.bind (below_ok hl _ _ (by decide) (by decide)) ?_
 rintro _ ⟨b,i,h,b0,b1,rfl⟩
 simp only [nv0,nvS,dvI,dvB,dvS,dvL,B5];refine Good.ite (fun _=>?_) (fun _=>?_)
 · refine Good.bind (pickI_ok hl _ _ (by decide) (by decide) (by decide)) ?_
   rintro _ ⟨n,i,h,n0,n1,rfl⟩
   have hb63:E9 (c.length+1) M63=true:=nb (by omega)
   simp only [nv0,nvS,dvI,dvB,dvS,dvL,B5,B6,C1,C7,D2,hb63,H1];refine Good.ret ⟨v,t,c++[n],i,h,by omega,hs.vs,hs.t,by simp; omega,fun x hx=>?_,by rw [D6]; rfl⟩
   rcases D0.1 hx with hx | hx
   · exact hs.ci x hx
   · rw [D3.1 hx]; exact S.i64ok_of (by omega) (by omega)
 refine Good.ite (fun _=>?_) (fun _=>?_)
 · refine Good.bind (pick_ok hl _ _ (by decide) (by decide) 8 (by decide)) ?_
   rintro _ ⟨s,i,h,hz,rfl⟩
   have hb63:E9 (v.length+1) M63=true:=nb (by omega)
   simp only [nv0,nvS,dvI,dvB,dvS,dvL,B5,B6,C1,C7,D2,hb63,H1];refine Good.ret ⟨v++[s],t,c,i,h,by simp; omega,fun x hx=>?_,hs.t,by omega,hs.ci,by rw [D6]; rfl⟩
   rcases D0.1 hx with hx | hx
   · exact hs.vs x hx
   · rw [D3.1 hx]; omega
 refine Good.ite (fun _=>?_) (fun _=>?_)
 · refine Good.bind (dany_ok hl _ _) ?_
   rintro _ ⟨u,i,h,hu,rfl⟩
   exact Good.ret ⟨v,u,c,i,h,by omega,hs.vs,hu,by omega,hs.ci,rfl⟩
 · exact Good.ret ⟨v,t,c,i,h,by omega,hs.vs,hs.t,by omega,hs.ci,rfl⟩
end Go.Q.S
end
section
namespace Go.Proofs
open Go.Shelf
def Tryz.lays190_ren:Go.Shelf.Ren:=⟨fun | 190=>135 | 125=>169 | 258=>168 | 128=>194 | 129=>195 | 302=>185 | 303=>186 | 304=>187 | 305=>188 | 306=>189 | 307=>190 | 308=>191 | 309=>192 | 310=>193 | 333=>201 | 329=>202 | 330=>203 | 334=>204 | 335=>205 | 336=>206 | 344=>211 | n=>n,fun | 31=>24 | 9=>9 | 3=>3 | 46=>185 | 0=>0 | 51=>208 | 53=>210 | 4=>4 | 183=>200 | 182=>199 | 131=>205 | 5=>5 | 218=>214 | 222=>218 | 228=>221 | 229=>222 | n=>n,fun | n=>n⟩
theorem Tryz.lays190:Go.Proofs.Lays.n190 Tryz.prog Tryz.lays190_ren:={
 mixed:=by kernel_rfl
 f125:=Tryz.func169.trans (congrArg some (by kernel_rfl))
 f128:=Tryz.func194.trans (congrArg some (by kernel_rfl))
 f129:=Tryz.func195.trans (congrArg some (by kernel_rfl))
 f190:=Tryz.func135.trans (congrArg some (by kernel_rfl))
 f258:=Tryz.func168.trans (congrArg some (by kernel_rfl))
 f302:=Tryz.func185.trans (congrArg some (by kernel_rfl))
 f303:=Tryz.func186.trans (congrArg some (by kernel_rfl))
 f304:=Tryz.func187.trans (congrArg some (by kernel_rfl))
 f305:=Tryz.func188.trans (congrArg some (by kernel_rfl))
 f306:=Tryz.func189.trans (congrArg some (by kernel_rfl))
 f307:=Tryz.func190.trans (congrArg some (by kernel_rfl))
 f308:=Tryz.func191.trans (congrArg some (by kernel_rfl))
 f309:=Tryz.func192.trans (congrArg some (by kernel_rfl))
 f310:=Tryz.func193.trans (congrArg some (by kernel_rfl))
 f329:=Tryz.func202.trans (congrArg some (by kernel_rfl))
 f330:=Tryz.func203.trans (congrArg some (by kernel_rfl))
 f333:=Tryz.func201.trans (congrArg some (by kernel_rfl))
 f334:=Tryz.func204.trans (congrArg some (by kernel_rfl))
 f335:=Tryz.func205.trans (congrArg some (by kernel_rfl))
 f336:=Tryz.func206.trans (congrArg some (by kernel_rfl))
 f344:=Tryz.func211.trans (congrArg some (by kernel_rfl))
 t0:=Tryz.underlying0
 a0:=Tryz.isAgg0
 z0:=Tryz.sizeOf0
 v0:=Tryz.zeroValue0
 t3:=Tryz.underlying3
 a3:=Tryz.isAgg3
 z3:=Tryz.sizeOf3
 v3:=Tryz.zeroValue3
 t4:=Tryz.underlying4
 a4:=Tryz.isAgg4
 z4:=Tryz.sizeOf4
 v4:=Tryz.zeroValue4
 t5:=Tryz.underlying5
 a5:=Tryz.isAgg5
 z5:=Tryz.sizeOf5
 v5:=Tryz.zeroValue5
 t9:=Tryz.underlying9
 a9:=Tryz.isAgg9
 z9:=Tryz.sizeOf9
 v9:=Tryz.zeroValue9
 t31:=Tryz.underlying24
 a31:=Tryz.isAgg24
 z31:=Tryz.sizeOf24
 v31:=Tryz.zeroValue24
 t46:=Tryz.underlying185
 a46:=Tryz.isAgg185
 z46:=Tryz.sizeOf185
 v46:=Tryz.zeroValue185
 t51:=Tryz.underlying208
 a51:=Tryz.isAgg208
 z51:=Tryz.sizeOf208
 v51:=Tryz.zeroValue208
 t53:=Tryz.underlying210
 a53:=Tryz.isAgg210
 z53:=Tryz.sizeOf210
 v53:=Tryz.zeroValue210
 t131:=Tryz.underlying205
 a131:=Tryz.isAgg205
 z131:=Tryz.sizeOf205
 v131:=Tryz.zeroValue205
 t182:=Tryz.underlying199
 a182:=Tryz.isAgg199
 z182:=Tryz.sizeOf199
 v182:=Tryz.zeroValue199
 t183:=Tryz.underlying200
 a183:=Tryz.isAgg200
 z183:=Tryz.sizeOf200
 v183:=Tryz.zeroValue200
 t218:=Tryz.underlying214
 a218:=Tryz.isAgg214
 z218:=Tryz.sizeOf214
 v218:=Tryz.zeroValue214
 t222:=Tryz.underlying218
 a222:=Tryz.isAgg218
 z222:=Tryz.sizeOf218
 v222:=Tryz.zeroValue218
 t228:=Tryz.underlying221
 a228:=Tryz.isAgg221
 z228:=Tryz.sizeOf221
 v228:=Tryz.zeroValue221
 t229:=Tryz.underlying222
 a229:=Tryz.isAgg222
 z229:=Tryz.sizeOf222
 v229:=Tryz.zeroValue222 }
def Tryz.lays194_ren:Go.Shelf.Ren:=⟨fun | 194=>136 | n=>n,fun | 31=>24 | 9=>9 | 3=>3 | 4=>4 | 0=>0 | n=>n,fun | n=>n⟩
theorem Tryz.lays194:Go.Proofs.Lays.n194 Tryz.prog Tryz.lays194_ren:={
 mixed:=by kernel_rfl
 f194:=Tryz.func136.trans (congrArg some (by kernel_rfl))
 t0:=Tryz.underlying0
 a0:=Tryz.isAgg0
 z0:=Tryz.sizeOf0
 v0:=Tryz.zeroValue0
 t3:=Tryz.underlying3
 a3:=Tryz.isAgg3
 z3:=Tryz.sizeOf3
 v3:=Tryz.zeroValue3
 t4:=Tryz.underlying4
 a4:=Tryz.isAgg4
 z4:=Tryz.sizeOf4
 v4:=Tryz.zeroValue4
 t9:=Tryz.underlying9
 a9:=Tryz.isAgg9
 z9:=Tryz.sizeOf9
 v9:=Tryz.zeroValue9
 t31:=Tryz.underlying24
 a31:=Tryz.isAgg24
 z31:=Tryz.sizeOf24
 v31:=Tryz.zeroValue24 }
end Go.Proofs
namespace Go.Q.S
open Go Go.Q Go.Proofs
theorem kiF_mem:∀ {l:List (Nat × Nat × KI)} {v n:Nat} {i:KI},kiF l v n=some i->∃ a b,(a,b,i)∈l
 | [],v,n,i,h=>by simp [kiF] at h
 | (a,b,x)::r,v,n,i,h=>by
  unfold kiF at h;cases hb:F1 a v&&F1 b n with
  | true=>rw [hb] at h; simp only [H1,C9.injEq] at h; exact ⟨a,b,by rw [h]; exact List.mem_cons_self ..⟩
  | false =>
   rw [hb] at h;obtain ⟨a',b',h'⟩:=kiF_mem h;exact ⟨a',b',List.mem_cons_of_mem _ h'⟩
theorem ext_ok:∀ f g,H.ext f=some g->∀ v ls x,g v ls=some x->FnT Tryz.prog H ⟨f,v,0⟩ ls x:=fun f g h v ls x hx=>by
 have h:lookN extL f=some g:=h;simp only [extL,lookN] at h;cases h1:F1 135 f with
 | true =>
  rw [h1] at h;simp only [H1,C9.injEq] at h;subst h;obtain rfl:=beqN.1 h1;refine sort_fnT Go.Proofs.Tryz.lays190 rfl (E:=9) (fl:=[]) rfl Tryz.func135 (fun he=>by cases he) (of_decide_eq_false (by kernel_rfl)) (fun i hi=>?_) hx
  obtain ⟨a,b,hm⟩:=kiF_mem (l:=[(0,0,⟨[(0,.hd 0)],[(0,.arr 9 .deep)],[⟨.ret,[],[(0,.arr 9 .deep)]⟩]⟩)]) hi;simp only [E4,Q8,or_false,Prod.mk.injEq] at hm;exact hm.2.2
 | false =>
 rw [h1] at h;simp only [H2] at h;cases h1:F1 136 f with
 | true =>
  rw [h1] at h;simp only [H1,C9.injEq] at h;subst h;obtain rfl:=beqN.1 h1;refine comp_fnT Go.Proofs.Tryz.lays194 rfl (E:=9) (fl:=[]) rfl Tryz.func136 (fun he=>by cases he) (of_decide_eq_false (by kernel_rfl)) (fun i hi=>?_) hx
  obtain ⟨a,b,hm⟩:=kiF_mem (l:=[(0,0,⟨[(0,.hd 0)],[(0,.arr 9 .deep)],[⟨.ret,[(0,.hd 16)],[(16,.arr 9 .deep)]⟩]⟩)]) hi;simp only [E4,Q8,or_false,Prod.mk.injEq] at hm;exact hm.2.2
 | false =>
 rw [h1] at h;simp only [H2] at h;simp at h
theorem fits:Fits Tryz.prog H where
 ty:=tyOK_of (l:=tyL) (fun _=>rfl) (by kernel_rfl)
 eq:=eqOK_of (l:=eqL) (fun _=>rfl) (by kernel_rfl)
 mixed:=Tryz.checked.mixed
 names:=names_of (by kernel_rfl)
 ext:=ext_ok
end Go.Q.S
end
