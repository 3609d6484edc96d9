/- For all arguments the law FnUnified answers true and leaves its arguments as they were; no condition. -/
import Derived.Test.YtddgnnhdjgjmnaaPA
import Derived.Test.YtddgnnhdjgjmnaaRows
import Derived.WalkKit
import Derived.ProofKit
import Derived.OpenShut
import Derived.ShutString
import Derived.ChangeOld
import Derived.Below
import Derived.SizedLaws
set_option linter.unusedVariables false
set_option linter.unusedSimpArgs false
open Bool renaming not_true->F6,not_false->K9
open List renaming map_cons->B9,length_map->C0,length_cons->C6,map_nil->F8,map_append->G5
open Option renaming bind_some->B6,map_some->K7
namespace Go.Q.S
open Go Go.Q Go.Proofs
def L5:List CT:=[.int .u8]
theorem ty5:H.ty 5=some ⟨false,L5,[]⟩:=by kernel_rfl
theorem wl5 {ds:List D} (h:WL H ds L5):∃ a0,ds=[D.int a0]:=by
 unfold L5 at h;obtain ⟨a0,_,rfl,_,h⟩:=wl_int h;obtain rfl:=wl_nil h;exact ⟨a0,rfl⟩
def L22:List CT:=[.sl 5]
theorem ty22:H.ty 22=some ⟨false,L22,[]⟩:=by kernel_rfl
theorem wl22 {ds:List D} (h:WL H ds L22):∃ a0,ds=[D.sl a0]/\a0.length<=maxLen/\WRs H a0 L5:=by
 unfold L22 at h;obtain ⟨a0,_,rfl,b0,c0,h⟩:=wl_sl ty5 h;obtain rfl:=wl_nil h;exact ⟨a0,rfl,b0,c0⟩
theorem varsI (t:Tm) (h:t.nodes<=1048577):rn ⟨24,0,0⟩ [.int t.k,.int t.n,.str t.s,.sl (t.as.map Tm.row)]=some (0,[.sl ((srtN t.names).map sRow)]):=by
 have h1:=r46 t h;have hnl:=names_nodes t;have h2:=r44 t.names (by omega)
 rw [e24_0_0];simp only [h1,nv0,nvS,dvI,dvB,dvS,dvL,B6,h2]
theorem lgI (l:List Bnd) (hl:l.length<=1048576) (hs:∀ b∈l,Small b.2/\b.2.nodes<=1099511627776) (A B:Tm) (R M:Rows):rn ⟨17,0,3⟩ [.sl (l.map Bnd.row),.sl (l.map Bnd.row),.int (l.length:Int),.int 0,.int A.k,.int A.n,.str A.s,.sl (A.as.map Tm.row),.int B.k,.int B.n,.str B.s,.sl (B.as.map Tm.row),.sl R,.sl M]=bif lrg l then some (1,[.sl []]) else some (0,[.sl (l.map Bnd.row),.int A.k,.int A.n,.str A.s,.sl (A.as.map Tm.row),.int B.k,.int B.n,.str B.s,.sl (B.as.map Tm.row),.sl R,.sl M]):=by
 have key:∀ n i,i+n=l.length->rn ⟨17,0,3⟩ [.sl (l.map Bnd.row),.sl (l.map Bnd.row),.int (l.length:Int),.int (i:Int),.int A.k,.int A.n,.str A.s,.sl (A.as.map Tm.row),.int B.k,.int B.n,.str B.s,.sl (B.as.map Tm.row),.sl R,.sl M]=bif lrg (l.drop i) then some (1,[.sl []]) else some (0,[.sl (l.map Bnd.row),.int A.k,.int A.n,.str A.s,.sl (A.as.map Tm.row),.int B.k,.int B.n,.str B.s,.sl (B.as.map Tm.row),.sl R,.sl M]):=by
  intro n;induction n with
  | zero =>
   intro i hi;obtain rfl:i=l.length:=by omega
   rw [e17_0_3];simp only [C0,Int.ofNat_lt,Nat.lt_irrefl,H4,H2,List.drop_length,lrg,List.any_nil]
  | succ n ih =>
   intro i hi;have hlt:i<l.length:=by omega
   have hb:=hs _ (List.getElem_mem hlt);have h1:=cntB l[i].2 hb.1 hb.2;rw [e17_0_3,List.drop_eq_getElem_cons hlt];simp only [C0,Int.ofNat_lt,hlt,H3,H1,inbN,Int.toNat_natCast,rowAt_map hlt,wrap_succ hlt (maxB (by omega)),bd_row,nv0,nvS,dvI,dvB,dvS,dvL,B6,h1,ih (i+1) (by omega),lrg,List.any_cons]
   have e:decide ((400:Int)<(l[i].2.nodes:Int))=decide (400<l[i].2.nodes):=decide_eq_decide.2 (by omega)
   rw [e];cases decide (400<l[i].2.nodes) <;> rfl
 have h:=key l.length 0 (Nat.zero_add _);simpa using h
def uI (A B:Tm):Option (List Bnd)->R
 | some l'=>some (0,[.sl (l'.map Bnd.row),.int A.k,.int A.n,.str A.s,.sl (A.as.map Tm.row),.int B.k,.int B.n,.str B.s,.sl (B.as.map Tm.row)])
 | none=>some (1,[.sl []])
def uS (A B:Tm):Option (List Bnd)->R
 | some l'=>some (0,[.int A.k,.int A.n,.str A.s,.sl (A.as.map Tm.row),.int B.k,.int B.n,.str B.s,.sl (B.as.map Tm.row),.sl [],.sl [],.sl (l'.map Bnd.row)])
 | none=>some (1,[.sl []])
theorem uniI {A B:Tm} (nA:A.nodes<=400) (nB:B.nodes<=400) {l:List Bnd} {r:List (Tm × Tm)} {o:Option (List Bnd)} (h:Un l r o):Uni A B l r->rn ⟨17,0,1⟩ [.sl (l.map Bnd.row),.int A.k,.int A.n,.str A.s,.sl (A.as.map Tm.row),.int B.k,.int B.n,.str B.s,.sl (B.as.map Tm.row),.sl (r.map eqRow)]=uI A B o:=by
 have hi:∀ n:Nat,inb 0 (n+1)=true:=fun n=>by simp [inb]
 have hr0:∀ (a:List D) (b:Rows),rowAt (a::b) (Int.toNat 0)=a:=fun _ _=>rfl
 have h0n:∀ n:Nat,decide ((0:Int)<((n+1:Nat):Int))=true:=fun n=>H7 (by omega)
 have hd1:∀ n:Nat,decide ((1:Int)<=((n+1:Nat):Int))=true:=fun n=>H7 (by omega)
 have htk:∀ (a:List D) (b:Rows),((a::b).take (Int.toNat ((b.length+1:Nat):Int))).drop (Int.toNat 1)=b:=fun a b=>by rw [Int.toNat_natCast]; exact take_all
 induction h with
 | done =>
  intro hu;rw [e17_0_1];rfl
 | @fail l x y r ht =>
  intro hu;have ht1:=treat_ok x y l r (hu.bd nA nB);rw [ht] at ht1;rw [e17_0_1];simp only [B9,C6,h0n,hi,H1,hr0,eqRow,nv0,nvS,dvI,dvB,dvS,dvL,B6,ht1,utD];rfl
 | @large l l1 x y r m ht hl =>
  intro hu;have hb:=hu.bd nA nB;have ht1:=treat_ok x y l r hb;obtain ⟨q1,q2,q3⟩:=trt_nodes ht hb.ln hb.nx hb.ny;have q4:=trt_dt ht hb.ld (hb.dx.aS hb.ld) (hb.dy.aS hb.ld);have hg:=lgI l1 (by have:=hb.ll; omega) (fun b hb=>⟨Dt.small _ (q4 b hb),by have:=q2 b hb; omega⟩) A B (((x,y)::r).map eqRow) (m.map eqRow)
  rw [ht] at ht1;rw [hl,H1] at hg;simp only [B9,eqRow] at hg;rw [e17_0_1];simp only [B9,C6,h0n,hi,H1,hr0,eqRow,nv0,nvS,dvI,dvB,dvS,dvL,B6,ht1,utD,F6,H2,C0,hg];rfl
 | @step l l1 x y r m o ht hl hun ih =>
  intro hu;have hb:=hu.bd nA nB;have ht1:=treat_ok x y l r hb;obtain ⟨q1,q2,q3⟩:=trt_nodes ht hb.ln hb.nx hb.ny;have q4:=trt_dt ht hb.ld (hb.dx.aS hb.ld) (hb.dy.aS hb.ld);have hg:=lgI l1 (by have:=hb.ll; omega) (fun b hb=>⟨Dt.small _ (q4 b hb),by have:=q2 b hb; omega⟩) A B (((x,y)::r).map eqRow) (m.map eqRow)
  have hrl:=hb.rl;have ih1:=ih (hu.next ht hl).1;have hb63:Nat.ble (m.length+r.length) M63=true:=nb (by omega)
  rw [ht] at ht1;rw [hl,H2] at hg;simp only [B9,eqRow,G5] at hg ih1;have hd0:(decide ((0:Int)<=1)&&(decide ((1:Int)<=((r.length+1:Nat):Int))&&decide (((r.length+1:Nat):Int)<=((r.length+1:Nat):Int))))=true:=by simp; omega
  rw [e17_0_1];simp only [B9,C6,h0n,hi,H1,hr0,eqRow,nv0,nvS,dvI,dvB,dvS,dvL,B6,ht1,utD,F6,H2,C0,hg,Nat.beq_refl,H1,H2,hd0];have htk':=htk (eqRow (x,y)) (r.map eqRow);simp only [eqRow,C0] at htk';rw [htk'];simp only [C0,hb63,H1];exact ih1
theorem uniS {A B:Tm} (nA:A.nodes<=400) (nB:B.nodes<=400) {l:List Bnd} {r:List (Tm × Tm)} {o:Option (List Bnd)} (h:Un l r o):Uni A B l r->rn ⟨18,0,1⟩ [.int A.k,.int A.n,.str A.s,.sl (A.as.map Tm.row),.int B.k,.int B.n,.str B.s,.sl (B.as.map Tm.row),.sl (r.map fun e=>e.1.row),.sl (r.map fun e=>e.2.row),.sl (l.map Bnd.row)]=uS A B o:=by
 have h0n:∀ n:Nat,decide ((0:Int)<((n+1:Nat):Int))=true:=fun n=>H7 (by omega)
 induction h with
 | done =>
  intro hu;rw [e18_0_1];rfl
 | @fail l x y r ht =>
  intro hu;obtain ⟨q,e,hq⟩:=l8step_ok x y l r (hu.bd nA nB);rw [ht] at hq;obtain ⟨L,R,S,rfl⟩:=hq;simp only [B9] at e;rw [e18_0_1];simp only [B9,C6,h0n,H1,e,nv0,nvS,dvI,dvB,dvS,dvL,B6];rfl
 | @large l l1 x y r m ht hl =>
  intro hu;have hb:=hu.bd nA nB;obtain ⟨q,e,hq⟩:=l8step_ok x y l r hb;rw [ht] at hq;simp only [stD] at hq;subst hq;obtain ⟨q1,q2,q3⟩:=trt_nodes ht hb.ln hb.nx hb.ny;have q4:=trt_dt ht hb.ld (hb.dx.aS hb.ld) (hb.dy.aS hb.ld);have hg:=large_ok l1 (by have:=hb.ll; omega) (fun b hb=>⟨Dt.small _ (q4 b hb),by have:=q2 b hb; omega⟩)
  rw [hl] at hg;simp only [B9] at e;rw [e18_0_1];simp only [B9,C6,h0n,H1,e,nv0,nvS,dvI,dvB,dvS,dvL,B6,F6,H2,hg];rfl
 | @step l l1 x y r m o ht hl hun ih =>
  intro hu;have hb:=hu.bd nA nB;obtain ⟨q,e,hq⟩:=l8step_ok x y l r hb;rw [ht] at hq;simp only [stD] at hq;subst hq;obtain ⟨q1,q2,q3⟩:=trt_nodes ht hb.ln hb.nx hb.ny;have q4:=trt_dt ht hb.ld (hb.dx.aS hb.ld) (hb.dy.aS hb.ld);have hg:=large_ok l1 (by have:=hb.ll; omega) (fun b hb=>⟨Dt.small _ (q4 b hb),by have:=q2 b hb; omega⟩)
  rw [hl] at hg;have ih1:=ih (hu.next ht hl).1;simp only [B9] at e;rw [e18_0_1];simp only [B9,C6,h0n,H1,e,nv0,nvS,dvI,dvB,dvS,dvL,B6,F6,H2,hg];exact ih1
theorem uni_main {A B:Tm} (hA:Dt 2 A) (hB:Dt 2 B) (nA:A.nodes<=400) (nB:B.nodes<=400):∃ o,Un [] [(A,B)] o/\rn ⟨17,0,0⟩ [.int A.k,.int A.n,.str A.s,.sl (A.as.map Tm.row),.int B.k,.int B.n,.str B.s,.sl (B.as.map Tm.row)]=some (0,foI (o.map (urs A B)) [])/\rn ⟨18,0,0⟩ [.int A.k,.int A.n,.str A.s,.sl (A.as.map Tm.row),.int B.k,.int B.n,.str B.s,.sl (B.as.map Tm.row)]=some (0,foI (o.map (urs A B)) []):=by
 have hu:=uni0 hA hB;obtain ⟨o,ho⟩:=un_total _ _ [] [(A,B)] hu (Nat.le_refl _) (Nat.le_refl _);have h1:=uniI nA nB ho hu;have h2:=uniS nA nB ho hu;simp only [F8,B9,eqRow,Tm.row_eq] at h1 h2;have v1:=varsI A (by omega)
 have v2:=varsI B (by omega)
 have v3:=r27 A (by omega)
 have v4:=r27 B (by omega)
 have n1:=names_nodes A;have n2:=names_nodes B;have n3:=srtN_len A.names;have n4:=srtN_len B.names;have hb63:Nat.ble ((srtN A.names).length+(srtN B.names).length) M63=true:=nb (by omega)
 refine ⟨o,ho,?_,?_⟩
 · rw [e17_0_0,h1]
   cases o with
   | none=>rfl
   | some l' =>
    obtain ⟨k1,k2,_,_⟩:=urs_ok hA hB nA nB ho;have h4:=r23 l' (by omega) k2 (srtN A.names++srtN B.names) (by simp; omega)
    simp only [G5] at h4;simp only [uI,nv0,nvS,dvI,dvB,dvS,dvL,B6,Nat.beq_refl,H1,H2,v1,v2,C0,hb63,h4,K7,foI,urs]
 · rw [e18_0_0,h2]
   cases o with
   | none=>rfl
   | some l' =>
    obtain ⟨k1,k2,_,_⟩:=urs_ok hA hB nA nB ho;have h4:=r26 l' (by omega) k2 (srtN A.names++srtN B.names) (by simp; omega)
    simp only [G5] at h4;simp only [uS,nv0,nvS,dvI,dvB,dvS,dvL,B6,Nat.beq_refl,H1,H2,v3,v4,C0,hb63,h4,K7,foI,urs]
theorem r20 (u t:Tm) (ht:t.nodes<=1048576) (hu:Small u):rn ⟨20,0,0⟩ [.int u.k,.int u.n,.str u.s,.sl (u.as.map Tm.row),.int t.k,.int t.n,.str t.s,.sl (t.as.map Tm.row)]=some (0,[.bool (mT t u []).isSome]):=by
 rw [e20_0_0,r8 t u ht hu];cases mT t u [] <;> rfl
theorem part2 {code:Rows} (hl:code.length<=1048576):∃ p t:Tm,∃ q:List D,rn ⟨6,0,0⟩ [.sl code]=some (0,[.int p.k,.int p.n,.str p.s,.int t.k,.int t.n,.str t.s,.sl (p.as.map Tm.row),.sl (t.as.map Tm.row)])/\rn ⟨19,0,0⟩ [.int t.k,.int t.n,.str t.s,.sl (t.as.map Tm.row)]=some (0,[.bool (isG t)]) ∧
 rn ⟨20,0,0⟩ [.int t.k,.int t.n,.str t.s,.sl (t.as.map Tm.row),.int p.k,.int p.n,.str p.s,.sl (p.as.map Tm.row)]=some (0,[.bool (mT p t []).isSome])/\(isG t=true->(mT p t []).isSome=true->∃ l:List Bnd,rn ⟨17,0,0⟩ [.int p.k,.int p.n,.str p.s,.sl (p.as.map Tm.row),.int t.k,.int t.n,.str t.s,.sl (t.as.map Tm.row)]=some (0,[.bool true,.sl (l.map Bnd.row)])/\rn ⟨8,0,0⟩ [.int p.k,.int p.n,.str p.s,.sl (p.as.map Tm.row),.int t.k,.int t.n,.str t.s,.sl (t.as.map Tm.row)]=some (0,[.bool true,.sl (l.map Bnd.row)])/\rn ⟨9,0,0⟩ [.sl (l.map Bnd.row),.sl (l.map Bnd.row)]=some (0,[.bool true])):=by
 obtain ⟨_,e1,p,t,d1,d2,n1,n2,rfl⟩:=dmatch_ok hl;have hst:Small t:=small_of _ (by omega)
 refine ⟨p,t,[],e1,r19 t (by omega),r20 t p (by omega) hst,fun hg hm=>?_⟩
 have hp:Dt 2 p:=d1.mono (by decide)
 have ht:Dt 2 t:=d2.mono (by decide)
 obtain ⟨o,ho,u1,_⟩:=uni_main hp ht n1 n2;have x2:=r8 p t (by omega) hst
 cases hq:mT p t [] with
 | none=>rw [hq] at hm; simp at hm
 | some lm =>
  rw [hq] at x2;have hgn:t.names=[]:=by
   unfold isG at hg;simp only [decide_eq_true_eq] at hg;exact List.length_eq_zero_iff.1 (by omega)
  obtain ⟨l',rfl,e⟩:=urs_match hp ht n2 hgn hq ho;obtain ⟨_,_,k3,k4⟩:=urs_ok hp ht n1 n2 ho;refine ⟨urs p t l',u1,?_,sameBinds_ok _ (by omega) k4⟩
  rw [e,x2]; rfl
theorem law4r (code:Rows):rn ⟨4,0,0⟩ [.sl code]=some (0,[.bool true]):=by
 rw [e4_0_0,big_ok];simp only [nv0,nvS,dvI,dvB,dvS,dvL,B6];by_cases hl:code.length<=1048576
 case neg=>rw [H7 (by omega:(1048576:Int)<code.length)]; rfl
 rw [H8 (by omega:¬(1048576:Int)<code.length)]
 obtain ⟨_,e1,A,B,hA,hB,nA,nB,rfl⟩:=duni_ok hl;obtain ⟨o,ho,u1,u2⟩:=uni_main hA hB nA nB;obtain ⟨p,t,_,w1,w2,w3,w4⟩:=part2 hl;simp only [H2,e1,nv0,nvS,dvI,dvB,dvS,dvL,B6,u1,u2];cases o with
 | none =>
  have y1:=sameBinds_ok [] (by simp) (by simp)
  simp only [F8] at y1;simp only [Option.map_none,foI,nv0,nvS,dvI,dvB,dvS,dvL,B6,y1,beq_self_eq_true,F6,K9,H2,H1,w1,w2,w3];cases hg:isG t with
  | false=>rfl
  | true =>
   cases hm:(mT p t []).isSome with
   | false=>rfl
   | true =>
    obtain ⟨l,z1,z2,z3⟩:=w4 hg hm;simp only [F6,H2,H1,z1,z2,z3,nv0,nvS,dvI,dvB,dvS,dvL,B6]
 | some l' =>
  obtain ⟨_,_,k3,k4⟩:=urs_ok hA hB nA nB ho;have y1:=sameBinds_ok (urs A B l') (by omega) k4
  have y2:=r13 (urs A B l') (by omega) k4 A (Dt.small _ hA)
  have y3:=r13 (urs A B l') (by omega) k4 B (Dt.small _ hB)
  rw [urs_solves hA hB ho] at y2;have y4:=r12 (aS (urs A B l') B) (aS (urs A B l') B) (aS_small k4 _ (Dt.small _ hB));rw [eqb_refl] at y4;simp only [K7,foI,nv0,nvS,dvI,dvB,dvS,dvL,B6,y1,y2,y3,y4,beq_self_eq_true,F6,K9,H2,H1,w1,w2,w3];cases hg:isG t with
  | false=>rfl
  | true =>
   cases hm:(mT p t []).isSome with
   | false=>rfl
   | true =>
    obtain ⟨l,z1,z2,z3⟩:=w4 hg hm;simp only [F6,H2,H1,z1,z2,z3,nv0,nvS,dvI,dvB,dvS,dvL,B6]
theorem law4 {x0:List D} (h0:WL H x0 L22):rn ⟨4,0,0⟩ x0=some (0,[.bool true]):=by
 obtain ⟨a,rfl,_,_⟩:=wl22 h0;exact law4r a
end Go.Q.S
namespace Go.Q.S
open Go Go.Q Go.Proofs
theorem ki4:H.ki ⟨4,0,0⟩=some ⟨[(0,argSh ((H.ty 22).getD default))],[],[⟨.ret,[(0,.bool)],[]⟩]⟩:=by kernel_rfl
theorem plain4:plainB Try.prog H [5,22]=true:=by kernel_rfl
end Go.Q.S
namespace Go.Proofs.Ytddgnnhdjgjmnaa.fnUnified
open Go Go.Q Go.Q.S
open Go.ChangeShapes Go.WideShapes Go.ChangeAt Go.RowKit
open Go.ChangeMaps (open_string shut_string)
theorem own:ownKnob Try.prog.godebug=none:=by kernel_rfl
theorem laid:laidOutB Try.prog=true:=by kernel_rfl
set_option maxRecDepth 100000 in
theorem lifted (os:Os) (started:os.Started) (H:Type) (enc:TypeId × Value->H) :
 ReturnsInHanded {} Try.checked os 4 .any (Rows.fnUnifiedSpec.pre6 enc Try.prog Try.f4 Rows.fnUnifiedRow.domain false) (Rows.fnUnifiedSpec.post enc Try.prog Try.f4 false true false false):=by
 refine returnsInHanded_of_change_sized (C:=Try.checked) own started (by kernel_rfl) Try.func4
  (ChangeSpec.witness6 (enc:=enc) (C:=Try.checked) false ⟨#[],#[.slice none 0 0],[]⟩ 8 (by kernel_rfl) (by kernel_rfl) (by kernel_rfl) (by kernel_rfl)) ?_
 intro W base args ds gs before hval0 hW hcnd hsz0 _;have hval:∀ (j:Nat) t v,Try.f4.params[j]?=some t->args[j]?=some v->Value.okWide Try.prog W .any base t v:=hval0;have hW':=hW;obtain ⟨p,q,hA0,hV,rfl,hfz,hnd⟩:=hW;have hA:DataW.TrodAll enc Try.prog W 0 (fun _=>true) true Try.f4.params.toList args.toList ds p:=hA0
 rw [Try.params4] at hA hval;obtain ⟨rfl,rfl⟩:=trodVars_none hV;have hB:=hA;obtain ⟨v0,d0,rfl,rfl,h0⟩:=trodAll_one hA;obtain ⟨dss,ha,hlen,hwl⟩:=args_data (H:=Go.Q.S.H) fits.ty plain4 _ _ _ _ hB (by decide) (fun j t v h h'=>hval j t v (by simpa using h) (by simpa using h'))
 obtain ⟨x0,rfl⟩:∃ x0,dss=[x0]:=by
  match dss,hlen with
  | [x0],_=>exact ⟨x0,rfl⟩
 obtain ⟨t0,e0,w0⟩:=hwl 0 _ _ rfl rfl;rw [ty22] at e0;obtain rfl:=Option.some.inj e0;refine (law_calls fits Try.func4 (by kernel_rfl) ki4 rfl rfl ha (b:=true) (by show rn _ _=_; simpa using law4 w0)).mono fun e W' ⟨he,bel⟩=>?_
 subst he;exact ⟨_,rfl,_,_,_,[],p,_,hW',trodAll_mk1 (shut_bool Try.underlying4 _),trodAll_below laid _ _ _ _ (read_of (by kernel_rfl)) hB bel (fun z hz=>hW'.lt z (by simp [hz])),rfl,bel.frame _,fun h=>by cases h⟩
theorem over:Rows.fnUnifiedRow.holds Try.pinned (OpenSpec.ofChange Rows.fnUnifiedSpec) :=
 OpenClaim.holds_of_wide 4 Try.f4 rfl rfl rfl rfl rfl rfl rfl ⟨rfl,rfl,rfl,rfl,rfl⟩ rfl rfl rfl rfl rfl (by kernel_rfl) Try.func4 (by kernel_rfl)
  (of_decide_eq_true (by kernel_rfl)) (by unfold Func.isWrapper; first | (rw [H5 (by decide +kernel)]; kernel_rfl) | (rw [H6 (by decide +kernel)]; exact ⟨rfl,rfl⟩))
  (fun os started H enc _=>lifted os started H enc)
theorem proved:Rows.FnUnifiedSaid:=over
end Go.Proofs.Ytddgnnhdjgjmnaa.fnUnified
namespace Go.Proofs.Ytddgnnhdjgjmnaa
theorem fnUnified_holds:Rows.FnUnifiedSaid:=fnUnified.proved
end Go.Proofs.Ytddgnnhdjgjmnaa
