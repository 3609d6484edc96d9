/- For all arguments the law FnProofs answers true and leaves its arguments as they were; no condition. -/
import Derived.Test.YtebeihhcaaaaiaaGreatPB
import Derived.Test.YtebeihhcaaaaiaaGreatfxE5
import Derived.Test.YtebeihhcaaaaiaaGreatRows
import Derived.WalkKit
import Derived.ProofKit
import Derived.OpenShut
import Derived.ShutString
import Derived.ChangeOld
import Derived.Below
import Derived.SizedLaws
set_option linter.unusedVariables false
set_option linter.unusedSimpArgs false
open List renaming length_map->B6,getElem_mem->C0
open Option renaming bind_some->B5
namespace Go.Q.S
open Go Go.Q Go.Proofs
def L5:List CT:=[.int .u8]
theorem ty5:H.ty 5=some ⟨false,L5,[]⟩:=by kernel_rfl
theorem wl5{ds:List D}(h:WL H ds L5):∃ a0,ds=[D.int a0]:=by
 unfold L5 at h;obtain⟨a0,_,rfl,_,h⟩:=Zz h;obtain rfl:=Rv h;exact⟨a0,rfl⟩
def L22:List CT:=[.sl 5]
theorem ah2:H.ty 22=some ⟨false,L22,[]⟩:=by kernel_rfl
theorem ah3{ds:List D}(h:WL H ds L22):∃ a0,ds=[D.sl a0]/\a0.length<=maxLen/\WRs H a0 L5:=by
 unfold L22 at h;obtain⟨a0,_,rfl,b0,c0,h⟩:=ae2 ty5 h;obtain rfl:=Rv h;exact⟨a0,rfl,b0,c0⟩
theorem ad6(code:aa):rn ⟨6,0,0⟩ [.sl code]=some (0,[.bool (decide ((1048576:Int)<code.length))]):=by rw[e6_0_0]
theorem law4r(code:aa):rn ⟨4,0,0⟩ [.sl code]=some (0,[.bool true]):=by
 rw[e4_0_0,ad6];simp only[nv0,nvS,dvI,dvB,dvS,dvL,B5];by_cases hl:code.length<=1048576
 case neg=>rw[H7 (by omega:(1048576:Int)<code.length)];rfl
 rw[H8 (by omega:¬(1048576:Int)<code.length)]
 have hbb:∀ b:Bool,(b==b)=true:=fun b=>by cases b<;>rfl
 obtain⟨d,cs,ps,hc,hpl,hpb,e1⟩:=Wm hl;have hcl:=hc.l.2;have x1:=r18 d hc.d.b cs hc.b hc.e (by omega) ps hpb (by omega)
 have x2:=r19 d hc.d.b cs hc.b hc.e (by omega) ps hpb (by omega)
 have key:∀ B,(B=true->Cp d cs ps=true)->rn ⟨4,0,1⟩ [.sl code,.bool B,.int 0,.sl (cs.map cn),.sl (ps.map gm),.sl (d.so.map ag),.sl (d.op.map OpM.row),.sl (d.ru.map RuM.row),.sl (d.st.map StM.row)]=some (0,[.sl code]):=by
  intro B hB;cases B with
  |false =>
   rw[e4_0_1];have h0:((0:Int)<((cs.map cn).length:Int)):=by rw[B6];have:=hc.l.1;omega
   simp only[H7 h0,H1,H2]
  |true =>
   have hA:=hB rfl;obtain⟨g1,g2⟩:=Ye hA;have hR:=Pw hc.d.b hc.b hc.e hA;have h:=Oa (F:=fun i=>rn ⟨4,0,1⟩ [.sl code,.bool true,.int (i:Int),.sl (cs.map cn),.sl (ps.map gm),.sl (d.so.map ag),.sl (d.op.map OpM.row),.sl (d.ru.map RuM.row),.sl (d.st.map StM.row)]) (n:=cs.length) (A:=some (0,[.sl code])) (fun i hlt=>by
    have hm:=C0 hlt;have hlp:i<ps.length:=by omega
    have y1:=r13 cs[i] (hc.b _ hm);rw[hR _ hm] at y1;unfold ClM.row at y1;rw[hc.e _ hm] at y1;have hpi:=hpb _ (C0 hlp);have y2:=r20 d hc.d.b cs hc.b hc.e (by omega) (i:Int) ps[i] hpi.b hpi.l
    rw[g2 i hlp] at y2;rw[e4_0_1];simp only[B6,Int.ofNat_lt,hlt,H3,H1,aq,Int.toNat_natCast,ab hlt,ae hlt (bc (by omega)),cn,nv0,nvS,dvI,dvB,dvS,dvL,B5,y1,ae5,H2,hlp,ab hlp,gm,y2,Bool.not_true]) (by
    rw[e4_0_1];simp only[B6,Int.ofNat_lt,Nat.lt_irrefl,H4,H2,List.drop_length])
   simpa only[Int.natCast_zero] using h
 have x3:=key (Cp d cs ps) (fun h=>h)
 obtain⟨d',cs',k',ns',hc',hn',e2⟩:=Qh hl;have hcl':=hc'.l.2;have hnl':=hn'.l;have z1:=r20 d' hc'.d.b cs' hc'.b hc'.e (by omega) k' ns' hn'.b (by omega)
 have z2:=r22 d' hc'.d.b cs' hc'.b hc'.e (by omega) k' ns' hn'.b (by omega)
 have z3:=ag0 ns' (by omega) hn'.b
 simp only[H2,e1,nv0,nvS,dvI,dvB,dvS,dvL,B5,x1,x2,hbb,Bool.not_true,x3,Nat.beq_refl,H1,H2,e2,z1,z2,z3]
theorem law4{x0:List D}(h0:WL H x0 L22):rn ⟨4,0,0⟩ x0=some (0,[.bool true]):=by
 obtain⟨a,rfl,_,hw⟩:=ah3 h0;exact law4r a
end Go.Q.S
namespace Go.Q.S
open Go Go.Q Go.Proofs
theorem ki4:H.ki ⟨4,0,0⟩=some ⟨[(0,Am ((H.ty 22).getD default))],[],[⟨.ret,[(0,.bool)],[]⟩]⟩:=by kernel_rfl
theorem ad7:Fl Tryz.prog H [5,22]=true:=by kernel_rfl
end Go.Q.S
namespace Go.Proofs.YtebeihhcaaaaiaaGreat.fnProofs
open Go Go.Q Go.Q.S
open Go.ChangeShapes Go.WideShapes Go.ChangeAt Go.RowKit
open Go.ChangeMaps (open_string shut_string)
theorem own:ownKnob Tryz.prog.godebug=none:=by kernel_rfl
theorem Wo:laidOutB Tryz.prog=true:=by kernel_rfl
set_option maxRecDepth 100000 in
theorem lifted(os:Os)(started:os.Started)(H:Type)(enc:TypeId×Value->H) :
 ReturnsInHanded {} Tryz.checked os 4 .any (Rows.fnProofsSpec.pre6 enc Tryz.prog Tryz.f4 Rows.fnProofsRow.domain false) (Rows.fnProofsSpec.post enc Tryz.prog Tryz.f4 false true false false):=by
 refine returnsInHanded_of_change_sized (C:=Tryz.checked) own started (by kernel_rfl) Tryz.func4
  (ChangeSpec.witness6 (enc:=enc) (C:=Tryz.checked) false ⟨#[],#[.slice none 0 0],[]⟩ 8 (by kernel_rfl) (by kernel_rfl) (by kernel_rfl) (by kernel_rfl)) ?_
 intro W base args ds gs before hval0 hW hcnd hsz0 _;have hval:∀ (j:Nat) t v,Tryz.f4.params[j]?=some t->args[j]?=some v->Value.okWide Tryz.prog W .any base t v:=hval0;have hW':=hW;obtain⟨p,q,hA0,hV,rfl,hfz,hnd⟩:=hW;have hA:DataW.TrodAll enc Tryz.prog W 0 (fun _=>true) true Tryz.f4.params.toList args.toList ds p:=hA0
 rw[Tryz.params4] at hA hval;obtain⟨rfl,rfl⟩:=trodVars_none hV;have hB:=hA;obtain⟨v0,d0,rfl,rfl,h0⟩:=trodAll_one hA;obtain⟨dss,ha,hlen,hwl⟩:=Df (H:=Go.Q.S.H) ag1.ty ad7 _ _ _ _ hB (by decide) (fun j t v h h'=>hval j t v (by simpa using h) (by simpa using h'))
 obtain⟨x0,rfl⟩:∃ x0,dss=[x0]:=by
  match dss,hlen with
  | [x0],_=>exact⟨x0,rfl⟩
 obtain⟨t0,e0,w0⟩:=hwl 0 _ _ rfl rfl;rw[ah2] at e0;obtain rfl:=Option.some.inj e0;refine(Pb ag1 Tryz.func4 (by kernel_rfl) ki4 rfl rfl ha (b:=true) (by show rn _ _=_;simpa using law4 w0)).mono fun e W' ⟨he,bel⟩=>?_
 subst he;exact⟨_,rfl,_,_,_,[],p,_,hW',trodAll_mk1 (shut_bool Tryz.underlying4 _),rc Wo _ _ _ _ (Xi (by kernel_rfl)) hB bel (fun z hz=>hW'.lt z (by simp[hz])),rfl,bel.frame _,fun h=>by cases h⟩
theorem over:Rows.fnProofsRow.holds Tryz.pinned (OpenSpec.ofChange Rows.fnProofsSpec) :=
 OpenClaim.holds_of_wide 4 Tryz.f4 rfl rfl rfl rfl rfl rfl rfl ⟨rfl,rfl,rfl,rfl,rfl⟩ rfl rfl rfl rfl rfl ag2 Tryz.func4 wi
  (of_decide_eq_true (by kernel_rfl)) (by unfold Func.isWrapper;first |(rw[H5 (by decide +kernel)];kernel_rfl) |(rw[H6 (by decide +kernel)];exact⟨rfl,rfl⟩))
  (fun os started H enc _=>lifted os started H enc)
theorem proved:Rows.FnProofsSaid:=over
end Go.Proofs.YtebeihhcaaaaiaaGreat.fnProofs
namespace Go.Proofs.YtebeihhcaaaaiaaGreat
theorem fnProofs_holds:Rows.FnProofsSaid:=fnProofs.proved
end Go.Proofs.YtebeihhcaaaaiaaGreat
