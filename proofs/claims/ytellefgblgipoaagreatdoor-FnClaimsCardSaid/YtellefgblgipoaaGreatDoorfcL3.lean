/- For all arguments the law FnClaims answers true and leaves its arguments as they were; no condition. -/
import Derived.Test.YtellefgblgipoaaGreatDoorPB
import Derived.Test.YtellefgblgipoaaGreatDoorfcE5
import Derived.Test.YtellefgblgipoaaGreatDoorRows
import Derived.WalkKit
import Derived.ProofKit
import Derived.OpenShut
import Derived.ShutString
import Derived.ChangeOld
import Derived.Below
import Derived.SizedLaws
import Derived.Test.YtellefgblgipoaaGreatDoorCards
import Derived.Test.YtellefgblgipoaaGreatDoorTie
import Derived.SevenTiedAt
import Derived.LaidMore
import Derived.Stop.Joined
set_option linter.unusedVariables false
set_option linter.unusedSimpArgs false
open Bool renaming not_true->D8,not_false->J4
open Int renaming toNat_natCast->B9,ofNat_lt->C0,natCast_zero->C6
open List renaming length_map->B6,drop_length->C9
open Option renaming bind_some->B5,some->C7
namespace Go.Q.S
open Go Go.Q Go.Proofs
def L5:List CT:=[.int .u8]
theorem ty5:H.ty 5=some ⟨false,L5,[]⟩:=by kernel_rfl
theorem wl5 {ds:List D} (h:WL H ds L5):∃ a0,ds=[D.int a0]:=by
 unfold L5 at h;obtain ⟨a0,_,rfl,_,h⟩:=Ws h;obtain rfl:=Pq h;exact ⟨a0,rfl⟩
def L22:List CT:=[.sl 5]
theorem Zg:H.ty 22=some ⟨false,L22,[]⟩:=by kernel_rfl
theorem Zh {ds:List D} (h:WL H ds L22):∃ a0,ds=[D.sl a0]/\a0.length<=maxLen/\WRs H a0 L5:=by
 unfold L22 at h;obtain ⟨a0,_,rfl,b0,c0,h⟩:=Yj ty5 h;obtain rfl:=Pq h;exact ⟨a0,rfl,b0,c0⟩
theorem Yc (code:aa):rn ⟨4,0,0⟩ [.sl code]=some (0,[.bool (decide ((1048576:Int)<code.length))]):=by rw [e4_0_0]
theorem Yd (l:List Int) (hl:l.length<=1048576) (x:Int) (hx:x∈l):rn ⟨15,0,0⟩ [.sl (l.map bu),.int x]=some (0,[.bool true]):=by
 have key:∀ n i,i+n=l.length->x∈l.drop i->rn ⟨15,0,1⟩ [.sl (l.map bu),.int x,.int (i:Int)]=some (1,[]):=by
  intro n;induction n with
  | zero =>
   intro i hi hm;obtain rfl:i=l.length:=by omega
   simp at hm
  | succ n ih =>
   intro i hi hm;have hlt:i<l.length:=by omega
   rw [List.drop_eq_getElem_cons hlt] at hm;rw [e15_0_1];simp only [B6,C0,hlt,H3,H1,ba,B9,ae hlt,ag hlt (br (by omega)),bu,nv0,nvS,dvI,dvB,dvS,dvL,B5]
   by_cases e:l[i]=x
   · simp only [H7 e,H1]
   · simp only [H8 e,H2]
     rcases List.mem_cons.1 hm with e' | hm
     · exact absurd e'.symm e
     · exact ih (i+1) (by omega) hm
 have h:=key l.length 0 (Nat.zero_add _) (by simpa using hx)
 simp only [C6] at h;rw [e15_0_0];simp only [h];rfl
theorem Zi (l:List ByteArray) (hl:l.length<=1048576):rn ⟨33,0,0⟩ [.sl (l.map ai),.sl (l.map ai)]=some (0,[.bool true]):=by
 have key:∀ n i,i+n=l.length->rn ⟨33,0,1⟩ [.sl (l.map ai),.sl (l.map ai),.int (l.length:Int),.int (i:Int)]=some (0,[]):=by
  intro n;induction n with
  | zero =>
   intro i hi;obtain rfl:i=l.length:=by omega
   rw [e33_0_1];simp only [B6,C0,Nat.lt_irrefl,H4,H2,C9]
  | succ n ih =>
   intro i hi;have hlt:i<l.length:=by omega
   rw [e33_0_1];simp only [B6,C0,hlt,H3,H1,ba,B9,ae hlt,ag hlt (br (by omega)),ai,nv0,nvS,dvI,dvB,dvS,dvL,B5,H3,D8,H2,ih (i+1) (by omega)]
 have h:=key l.length 0 (Nat.zero_add _);simp only [C6] at h;rw [e33_0_0];simp only [H3,D8,H2,B6,h,nv0,nvS,dvI,dvB,dvS,dvL,B5,Nat.beq_refl,H1,H2]
theorem Zj (l:List Gu) (hl:l.length<=1048576) (hg:∀ g∈l,ax g.l/\ax g.r):rn ⟨35,0,0⟩ [.sl (l.map Gu.row),.sl (l.map Gu.row)]=some (0,[.bool true]):=by
 have key:∀ n i,i+n=l.length->rn ⟨35,0,1⟩ [.sl (l.map Gu.row),.sl (l.map Gu.row),.int (l.length:Int),.int (i:Int)]=some (0,[]):=by
  intro n;induction n with
  | zero =>
   intro i hi;obtain rfl:i=l.length:=by omega
   rw [e35_0_1];simp only [B6,C0,Nat.lt_irrefl,H4,H2,C9]
  | succ n ih =>
   intro i hi;have hlt:i<l.length:=by omega
   obtain ⟨g1,g2⟩:=hg _ (List.getElem_mem hlt);have h1:=r34 l[i].l l[i].l g1;have h2:=r34 l[i].r l[i].r g2;rw [zp] at h1 h2;have h3:rn ⟨36,0,0⟩ [.int l[i].k,.int l[i].l.k,.int l[i].l.n,.str l[i].l.s,.sl (l[i].l.as.map Tm.row),.int l[i].r.k,.int l[i].r.n,.str l[i].r.s,.sl (l[i].r.as.map Tm.row),.int l[i].k,.int l[i].l.k,.int l[i].l.n,.str l[i].l.s,.sl (l[i].l.as.map Tm.row),.int l[i].r.k,.int l[i].r.n,.str l[i].r.s,.sl (l[i].r.as.map Tm.row)]=some (0,[.bool true]):=by
    rw [e36_0_0];simp only [H3,H1,h1,h2,nv0,nvS,dvI,dvB,dvS,dvL,B5]
   rw [e35_0_1];simp only [B6,C0,hlt,H3,H1,ba,B9,ae hlt,ag hlt (br (by omega)),Gu.row,nv0,nvS,dvI,dvB,dvS,dvL,B5,h3,D8,H2,ih (i+1) (by omega)]
 have h:=key l.length 0 (Nat.zero_add _);simp only [C6] at h;rw [e35_0_0];simp only [H3,D8,H2,B6,h,nv0,nvS,dvI,dvB,dvS,dvL,B5,Nat.beq_refl,H1,H2]
theorem Zb (v:List ByteArray) (l r:Tm) (g:List Gu) (hv:v.length<=1048576) (hl:ax l) (hr:ax r) (hgl:g.length<=1048576) (hg:∀ x∈g,ax x.l/\ax x.r):rn ⟨10,0,0⟩ [.sl (v.map ai),.int l.k,.int l.n,.str l.s,.sl (l.as.map Tm.row),.int r.k,.int r.n,.str r.s,.sl (r.as.map Tm.row),.sl (g.map Gu.row),.sl (v.map ai),.int l.k,.int l.n,.str l.s,.sl (l.as.map Tm.row),.int r.k,.int r.n,.str r.s,.sl (r.as.map Tm.row),.sl (g.map Gu.row)]=some (0,[.bool true]):=by
 have h1:=r34 l l hl;have h2:=r34 r r hr;rw [zp] at h1 h2;rw [e10_0_0];simp only [Zi v hv,h1,h2,Zj g hgl hg,nv0,nvS,dvI,dvB,dvS,dvL,B5,H1]
theorem law3r (code:aa):rn ⟨3,0,0⟩ [.sl code]=some (0,[.bool true]):=by
 rw [e3_0_0,Yc];simp only [nv0,nvS,dvI,dvB,dvS,dvL,B5];by_cases hl:code.length<=1048576
 case neg=>rw [H7 (by omega:(1048576:Int)<code.length)]; rfl
 rw [H8 (by omega:¬(1048576:Int)<code.length)]
 have hbb:∀ b:Bool,(b==b)=true:=fun b=>by cases b <;> rfl
 obtain ⟨d,v,l,r,g,hd,hc,e0⟩:=Nw hl;have e1:rn ⟨5,0,0⟩ [.sl code]=some (0,[.int l.k,.int l.n,.str l.s,.int r.k,.int r.n,.str r.s,.sl (d.so.map ai),.sl (d.op.map OpM.row),.sl (d.ru.map RuM.row),.sl (d.st.map StM.row),.sl (v.map ai),.sl (l.as.map Tm.row),.sl (r.as.map Tm.row),.sl (g.map Gu.row)]):=by
  rw [e5_0_0];simp only [e0,nv0,nvS,dvI,dvB,dvS,dvL,B5]
 have hcb:=hc.b hd.b;have hv:=hc.v;have hg:=hc.g;have hls:ax l:=hc.l.small (by decide)
 have hrs:ax r:=hc.r.small (by decide)
 have hgb:∀ x∈g,GuB x:=fun x hx=>(hc.ga x hx).b
 have hgo:∀ x∈g,x.ok:=fun x hx=>⟨(hgb x hx).ln,(hgb x hx).rn⟩
 have hgs:∀ x∈g,ax x.l/\ax x.r:=fun x hx=>⟨aq _ (hgb x hx).ln,aq _ (hgb x hx).rn⟩
 have hln:=hc.l.n;have hrn:=hc.r.n;have x1:=r6 _ hcb;have x2:=r7 _ hcb;have x3:=r8 _ hcb;have x4:=r9 _ hcb;rw [Um] at x1 x2;simp only [ClM.row] at x1 x2 x3 x4;have x5:=Zb v l r g (by omega) hls hrs (by omega) hgs
 have x6:=r11 (v.map ai) l r hc.l.w hc.r.w (by omega) (by omega) g (by omega) hgb
 have x7:=r12 (v.map ai) l r hc.l.w hc.r.w (by omega) (by omega) g (by omega) hgb
 simp only [H2,e1,nv0,nvS,dvI,dvB,dvS,dvL,B5,x1,x2,hbb,D8,H3,x3,x4,x5,x6,x7];cases hR:Js ⟨d,v,l,r,g⟩ with
 | none=>simp only [Option.isSome_none,J4,H1]
 | some k =>
  obtain ⟨k1,k2⟩:=Ra hR;simp only [] at k1 k2;have hal:=allC_len v g;have eN:(fq v g).map nRow=((fq v g).map fun (i:Nat)=>(i:Int)).map bu:=by rw [List.map_map]; rfl
  have y1:=r13 v (by omega) l r hls g (by omega) hgo
  rw [eN] at y1;have y2:=r14 v l hls (((fq v g).map fun (i:Nat)=>(i:Int)).map bu) (k:Int)
  have y3:=Yd ((fq v g).map fun (i:Nat)=>(i:Int)) (by rw [B6]; omega) (k:Int) (List.mem_map.2 ⟨k,k1,rfl⟩)
  have hw:=pf (vars:=v) hc.l.w (k:Int);have hn:=S.instR_nodes (vars:=v) (t:=l) (k:Int);have y4:=r16 d hd.b _ hw (by omega) 200
  have y5:=r18 v l r hrs (g.map Gu.row) (k:Int);have y6:=r17 d hd.b _ hw (by omega) (S.instR v r (k:Int)) 200
  simp only [Option.isSome_some,D8,H2,y1,nv0,nvS,dvI,dvB,dvS,dvL,B5,y2,Ym,y3,H1];unfold vt at k2;cases hq:jb d (S.instR v l (k:Int)) 200 with
  | none=>rw [hq] at k2; simp at k2
  | some q =>
   rw [hq] at k2 y4 y6;simp only [Bool.and_eq_true,decide_eq_true_eq,Bool.not_eq_true'] at k2;rw [k2.2] at y6;simp only [y4,rtD,nv0,nvS,dvI,dvB,dvS,dvL,B5,H7 k2.1,H1,y5,y6,J4]
theorem law3 {x0:List D} (h0:WL H x0 L22):rn ⟨3,0,0⟩ x0=some (0,[.bool true]):=by
 obtain ⟨a,rfl,_,hw⟩:=Zh h0;exact law3r a
end Go.Q.S
namespace Go.Q.S
open Go Go.Q Go.Proofs
theorem ki3:H.ki ⟨3,0,0⟩=some ⟨[(0,zo ((H.ty 22).getD default))],[],[⟨.ret,[(0,.bool)],[]⟩]⟩:=by kernel_rfl
theorem Ye:Dw Tryz.prog H [5,22]=true:=by kernel_rfl
end Go.Q.S
namespace Go.Proofs.YtellefgblgipoaaGreatDoor.fnClaims
open Go Go.Q Go.Q.S
open Go.ChangeShapes Go.WideShapes Go.ChangeAt Go.RowKit
open Go.ChangeMaps (open_string shut_string)
theorem met (os:Os) (args:Array Value):laidMetH Tryz.prog Rows.fnClaimsRow.laid ((World.doorLaid Tryz.prog 24 os).forCall (fun _ _=>0) ⟨#[],args,[]⟩).memory :=
 laidMetH_of_parts3 (fuel:=8) (laidMet_of_run' 8 (by kernel_rfl) (by kernel_rfl)) (by kernel_rfl) (by kernel_rfl)
theorem own:ownKnob Tryz.prog.godebug=none:=by kernel_rfl
theorem laid:laidOutB Tryz.prog=true:=by kernel_rfl
set_option maxRecDepth 100000 in
theorem lifted (os:Os) (started:os.Started) (H:Type) (enc:TypeId×Value->H) :
 ReturnsInHanded {} Tryz.checked os 3 .any (fun w args=>(Rows.fnClaimsSpec.pre enc Tryz.prog Tryz.f3 [] false w args/\laidMetH Tryz.prog Rows.fnClaimsRow.laid w)/\sizedMet enc Tryz.prog Tryz.f3 (OpenSpec.ofChange Rows.fnClaimsSpec) false w args) (Rows.fnClaimsSpec.post enc Tryz.prog Tryz.f3 false true false false):=by
 refine returnsInHanded_of_change_and (C:=Tryz.checked) (X:=fun w _=>laidMetH Tryz.prog Rows.fnClaimsRow.laid w) (fun _ _ _ hh h=>h.of_heap hh) own started (by kernel_rfl) Tryz.func3
  (ChangeSpec.witness_shaped (enc:=enc) (C:=Tryz.checked) (os:=os) (X:=fun w _=>laidMetH Tryz.prog Rows.fnClaimsRow.laid w) false (World.doorLaid Tryz.prog 24 os) #[.slice none 0 0] 8 rfl (World.shaped_of_RefB (by kernel_rfl) (by kernel_rfl)) (by kernel_rfl) (by kernel_rfl) (by kernel_rfl) (met os _)) ?_
 intro W base args ds gs before hval0 hW _ _ hL _;have hval:∀ (j:Nat) t v,Tryz.f3.params[j]?=some t->args[j]?=some v->Value.okWide Tryz.prog W .any base t v:=hval0;have hW':=hW;obtain ⟨p,q,hA0,hV,rfl,hfz,hnd⟩:=hW;have hA:DataW.TrodAll enc Tryz.prog W 0 (fun _=>true) true Tryz.f3.params.toList args.toList ds p:=hA0
 rw [Tryz.params3] at hA hval;obtain ⟨rfl,rfl⟩:=trodVars_none hV;have hB:=hA;obtain ⟨v0,d0,rfl,rfl,h0⟩:=trodAll_one hA;obtain ⟨dss,ha,hlen,hwl⟩:=Cb (H:=Go.Q.S.H) Za.ty Ye _ _ _ _ hB (by decide) (fun j t v h h'=>hval j t v (by simpa using h) (by simpa using h'))
 obtain ⟨x0,rfl⟩:∃ x0,dss=[x0]:=by
  match dss,hlen with
  | [x0],_=>exact ⟨x0,rfl⟩
 obtain ⟨t0,e0,w0⟩:=hwl 0 _ _ rfl rfl;rw [Zg] at e0;obtain rfl:=C7.inj e0;refine (Mp Za Tryz.func3 (by kernel_rfl) ki3 rfl rfl ha (fun _ h=>by cases h) (b:=true) (by show rn _ _=_; simpa using law3 w0)).mono fun e W' ⟨he,bel⟩=>?_
 subst he;exact ⟨_,rfl,_,_,_,[],p,_,hW',trodAll_mk1 (shut_bool Tryz.underlying4 _),qj laid _ _ _ _ (Uc (by kernel_rfl)) hB bel (fun z hz=>hW'.lt z (by simp [hz])),rfl,bel.frame _,fun h=>by cases h⟩
theorem over:Rows.fnClaimsRow.holds Tryz.pinned (OpenSpec.ofChange Rows.fnClaimsSpec) :=
 OpenClaim.holds_of_wide 3 Tryz.f3 rfl rfl rfl rfl rfl rfl rfl ⟨rfl,rfl,rfl,rfl,rfl⟩ rfl rfl rfl rfl rfl named Tryz.func3 ve
  (of_decide_eq_true (by kernel_rfl)) (by unfold Func.isWrapper; first | (rw [H5 (by decide +kernel)]; kernel_rfl) | (rw [H6 (by decide +kernel)]; exact ⟨rfl,rfl⟩))
  (fun os started H enc _=>lifted os started H enc)
theorem Th:Rows.FnClaimsSaid:=over
end Go.Proofs.YtellefgblgipoaaGreatDoor.fnClaims
namespace Go.Proofs.YtellefgblgipoaaGreatDoor
theorem fnClaimsCard_holds:Rows.FnClaimsCardSaid :=
 Claim7.holds_tied_plain_at .later [] [.data,.data,.data] true (true,"01fff9aaa034cd367abc7ebfc252a50ddbcc247d6e439ef2face13b1fa5f80e6") false
  fnClaims.over (fun _ h=>by cases h) (by kernel_rfl) (fun _ h=>by cases h) fnClaims_row_tie rfl ⟨rfl,rfl⟩ (by kernel_rfl) rfl
  (fun f fn hf hfn=>by
    obtain rfl:f=3:=C7.inj (fnClaims.named.symm.trans hf) |>.symm
    obtain rfl:fn=Tryz.f3:=(C7.inj (Tryz.func3.symm.trans hfn)).symm;exact ⟨by kernel_rfl,fun j t ht=>by
     rw [Tryz.params3] at ht;have hm:t∈[22]:=by simpa using Array.mem_of_getElem? ht
     have hall:([22].all fun u=>!Tryz.prog.wantsStandIn u)=true:=by kernel_rfl
     exact (show Tryz.prog.wantsStandIn t=false by simpa using List.all_eq_true.1 hall t hm)⟩)
  (by kernel_rfl)
end Go.Proofs.YtellefgblgipoaaGreatDoor
