/- For all arguments the law FnSubst answers true and leaves its arguments as they were; no condition. -/
import Derived.Test.YtlhkpdimkimogaaPA
import Derived.Test.YtlhkpdimkimogaafsE5
import Derived.Test.YtlhkpdimkimogaaRows
import Derived.WalkKit
import Derived.ProofKit
import Derived.OpenShut
import Derived.ShutString
import Derived.ChangeOld
import Derived.Below
import Derived.SizedLaws
set_option linter.unusedVariables false
set_option linter.unusedSimpArgs false
open Int renaming ofNat_lt->F2,natCast_zero->F4
open List renaming length_map->C4,length_cons->C7,length_nil->D4,map_append->F1,drop_eq_getElem_cons->F5,nil_append->F9,drop_length->K0,drop_zero->K3,all_cons->O9
open Nat renaming zero_add->D6,ble->G7,lt_irrefl->J5,reduceAdd->P5
open Option renaming bind_some->B6
namespace Go.Q.S
open Go Go.Q Go.Proofs
def L5:List CT:=[.int .u8]
theorem ty5:H.ty 5=some ⟨false,L5,[]⟩:=by kernel_rfl
theorem wl5 {ds:List D} (h:WL H ds L5):∃ a0,ds=[D.int a0]:=by
 unfold L5 at h;obtain ⟨a0,_,rfl,_,h⟩:=wl_int h;obtain rfl:=wl_nil h;exact ⟨a0,rfl⟩
def L22:List CT:=[.sl 5]
theorem ty22:H.ty 22=some ⟨false,L22,[]⟩:=by kernel_rfl
theorem wl22 {ds:List D} (h:WL H ds L22):∃ a0,ds=[D.sl a0]/\a0.length<=maxLen/\WRs H a0 L5:=by
 unfold L22 at h;obtain ⟨a0,_,rfl,b0,c0,h⟩:=wl_sl ty5 h;obtain rfl:=wl_nil h;exact ⟨a0,rfl,b0,c0⟩
def vrT (s:ByteArray):Tm:=.mk 1 0 s []
noncomputable def smB (a b l:List Bnd):Bool:=l.all fun x=>eqb (aS a (vrT x.1)).row (aS b (vrT x.1)).row
theorem rGrow (ls:List D):rn ⟨49,0,0⟩ ls=growG 0 ls:=by rw [rn_eq]; rfl
theorem concat_ok (A B:Rows) (ha:A.length<=1048576) (hb:B.length<=1048576):rn ⟨34,0,0⟩ [.sl [[.sl A],[.sl B]]]=some (0,[.sl (A++B)]):=by
 have r0:rowAt [[D.sl A],[D.sl B]] (Int.toNat 0)=[.sl A]:=rfl;have r1:rowAt [[D.sl A],[D.sl B]] (Int.toNat 1)=[.sl B]:=rfl;have i0:inb 0 2=true:=rfl;have i1:inb 1 2=true:=rfl;have w0:IntKind.i64.wrap (0+1)=1:=rfl;have w1:IntKind.i64.wrap (1+1)=2:=rfl;have c0:decide ((0:Int)<((2:Nat):Int))=true:=rfl;have c1:decide ((1:Int)<((2:Nat):Int))=true:=rfl;have c2:decide ((2:Int)<((2:Nat):Int))=false:=rfl;have wa:IntKind.i64.wrap (0+(A.length:Int))=(A.length:Int):=by rw [IntWalk.i64_in _ (by omega)]; omega
 have wb:IntKind.i64.wrap ((A.length:Int)+(B.length:Int))=((A.length+B.length:Nat):Int):=by rw [IntWalk.i64_in _ (by omega)]; omega
 have n1:decide ((A.length:Int)<0)=false:=H8 (by omega)
 have n2:decide (((A.length+B.length:Nat):Int)<0)=false:=H8 (by omega)
 have h1:rn ⟨34,0,1⟩ [.sl [[.sl A],[.sl B]],.int 0,.sl [[.sl A],[.sl B]],.int ((2:Nat):Int),.int 0]=some (0,[.sl [[.sl A],[.sl B]],.int ((A.length+B.length:Nat):Int)]):=by
  rw [e34_0_1];simp only [C7,D4,D6,P5,c0,i0,r0,w0,wa,n1,nv0,nvS,dvI,dvB,dvS,dvL,B6,H1,H2];rw [e34_0_1];simp only [C7,D4,D6,P5,c1,i1,r1,w1,wb,n2,nv0,nvS,dvI,dvB,dvS,dvL,B6,H1,H2];rw [e34_0_1];simp only [c2,H2]
 have hg:growG 0 [.int ((A.length+B.length:Nat):Int)]=some (0,[.sl []]):=by
  unfold growG;simp only [H7 (show (0:Int)<=((A.length+B.length:Nat):Int) by omega),H7 (show ((A.length+B.length:Nat):Int)<=4194304 by omega),Bool.and_self,H1]
 have b1:G7 (([]:Rows).length+A.length) M63=true:=nb (by simp; omega)
 have b2:G7 (A.length+B.length) M63=true:=nb (by omega)
 have h2:rn ⟨34,0,3⟩ [.sl [[.sl A],[.sl B]],.int ((2:Nat):Int),.int 0,.sl []]=some (0,[.sl (A++B)]):=by
  rw [e34_0_3];simp only [C7,D4,D6,P5,c0,i0,r0,w0,nv0,nvS,dvI,dvB,dvS,dvL,B6,H1];rw [show G7 A.length M63=true from Nat.ble_eq_true_of_le (by unfold M63; omega)]
  simp only [H1,F9];rw [e34_0_3];simp only [C7,D4,D6,P5,c1,i1,r1,w1,nv0,nvS,dvI,dvB,dvS,dvL,B6,H1,b2];rw [e34_0_3];simp only [c2,H2]
 rw [e34_0_0];simp only [C7,D4,D6,P5];rw [h1];simp only [nv0,nvS,dvI,dvB,dvS,dvL,B6,Nat.beq_refl,H1,H2];rw [rGrow,hg];simp only [nv0,nvS,dvI,dvB,dvS,dvL,B6,C7,D4,D6,P5];rw [h2];rfl
theorem value_ok (l:List Bnd) (hl:l.length<=1048576) (hs:∀ b∈l,Small b.2) (s:ByteArray):rn ⟨36,0,0⟩ [.sl (l.map Bnd.row),.str s]=some (0,[.int (aS l (vrT s)).k,.int (aS l (vrT s)).n,.str (aS l (vrT s)).s,.sl ((aS l (vrT s)).as.map Tm.row)]):=by
 have h:=r9 l hl hs (vrT s) (small_word ..);have h':rn ⟨9,0,0⟩ [.sl (l.map Bnd.row),.int 1,.int 0,.str s,.sl []]=_:=h;rw [e36_0_0,h'];rfl
theorem sameI (a b:List Bnd) (ha:a.length<=1048576) (hb:b.length<=1048576) (hsa:∀ x∈a,Small x.2) (hsb:∀ x∈b,Small x.2):rn ⟨16,0,0⟩ [.sl (a.map Bnd.row),.sl (b.map Bnd.row)]=some (0,[.bool (smB a b (a++b))]):=by
 have key:∀ (l:List Bnd),l.length<=4194304->∀ n i,i+n=l.length->rn ⟨16,0,1⟩ [.sl (a.map Bnd.row),.sl (b.map Bnd.row),.int (l.length:Int),.int (i:Int),.sl (l.map Bnd.row)]=bif smB a b (l.drop i) then some (0,[]) else some (1,[]):=by
  intro l hl n;induction n with
  | zero =>
   intro i hi;obtain rfl:i=l.length:=by omega
   rw [e16_0_1];simp only [C4,F2,J5,H4,H2,K0,smB,List.all_nil,H1]
  | succ n ih =>
   intro i hi;have hlt:i<l.length:=by omega
   have h1:=value_ok a ha hsa l[i].1;have h2:=value_ok b hb hsb l[i].1;have h3:=r35 (aS a (vrT l[i].1)) (aS b (vrT l[i].1)) (aS_small hsa _ (small_word ..));rw [e16_0_1,F5 hlt];simp only [C4,F2,hlt,H3,H1,inbN,Int.toNat_natCast,rowAt_map hlt,wrap_succ hlt (maxB (by omega)),bd_row,nv0,nvS,dvI,dvB,dvS,dvL,B6,h1,h2,h3,ih (i+1) (by omega),smB,O9]
   cases eqb (aS a (vrT l[i].1)).row (aS b (vrT l[i].1)).row <;> rfl
 have h0:=concat_ok (a.map Bnd.row) (b.map Bnd.row) (by simpa using ha) (by simpa using hb)
 have h:=key (a++b) (by simp; omega) (a++b).length 0 (D6 _)
 simp only [F4,K3,F1] at h;rw [e16_0_0,h0];simp only [nv0,nvS,dvI,dvB,dvS,dvL,B6];rw [<- F1,C4,F1,h];cases smB a b (a++b) <;> rfl
theorem sameS (a b:List Bnd) (ha:a.length<=1048576) (hb:b.length<=1048576) (hsa:∀ x∈a,Small x.2) (hsb:∀ x∈b,Small x.2):rn ⟨17,0,0⟩ [.sl (a.map Bnd.row),.sl (b.map Bnd.row)]=some (0,[.bool (smB a b (a++b))]):=by
 have key:∀ (l:List Bnd),l.length<=4194304->∀ n i,i+n=l.length->rn ⟨17,0,1⟩ [.sl (a.map Bnd.row),.sl (b.map Bnd.row),.int (i:Int),.sl (l.map Bnd.row)]=bif smB a b (l.drop i) then some (0,[]) else some (1,[]):=by
  intro l hl n;induction n with
  | zero =>
   intro i hi;obtain rfl:i=l.length:=by omega
   rw [e17_0_1];simp only [C4,F2,J5,H4,H2,K0,smB,List.all_nil,H1]
  | succ n ih =>
   intro i hi;have hlt:i<l.length:=by omega
   have h1:=r25 a ha hsa (vrT l[i].1) (small_word ..);have h2:=r25 b hb hsb (vrT l[i].1) (small_word ..);have h1':rn ⟨25,0,0⟩ [.sl (a.map Bnd.row),.int 1,.int 0,.str l[i].1,.sl []]=_:=h1;have h2':rn ⟨25,0,0⟩ [.sl (b.map Bnd.row),.int 1,.int 0,.str l[i].1,.sl []]=_:=h2;have h3:=r8 (aS a (vrT l[i].1)) (aS b (vrT l[i].1)) (aS_small hsa _ (small_word ..));rw [e17_0_1,F5 hlt];simp only [C4,F2,hlt,H3,H1,inbN,Int.toNat_natCast,rowAt_map hlt,wrap_succ hlt (maxB (by omega)),bd_row,nv0,nvS,dvI,dvB,dvS,dvL,B6,r37,h1',h2',h3,ih (i+1) (by omega),smB,O9]
   cases eqb (aS a (vrT l[i].1)).row (aS b (vrT l[i].1)).row <;> rfl
 have h:=key (a++b) (by simp; omega) (a++b).length 0 (D6 _)
 simp only [F4,K3,F1] at h;rw [e17_0_0];simp only [D4,F9,C4];rw [show G7 (0+a.length) M63=true from nb (by omega),show G7 (a.length+b.length) M63=true from nb (by omega)]
 simp only [H1];rw [h];cases smB a b (a++b) <;> rfl
theorem smB_refl (a l:List Bnd):smB a a l=true:=by
 unfold smB;rw [List.all_eq_true];intro x _;exact eqb_refl _
theorem DSb.small {l:List Bnd} (h:∀ b∈l,Dt 1 b.2/\b.2.nodes<=7):∀ b∈l,Small b.2:=fun b hb=>small_of _ (by have:=(h b hb).2; omega)
theorem law3r (code:Rows):rn ⟨3,0,0⟩ [.sl code]=some (0,[.bool true]):=by
 rw [e3_0_0,big_ok];simp only [nv0,nvS,dvI,dvB,dvS,dvL,B6];by_cases hl:code.length<=1048576
 case neg=>rw [H7 (by omega:(1048576:Int)<code.length)]; rfl
 rw [H8 (by omega:¬(1048576:Int)<code.length)]
 -- draws
 obtain ⟨a,b,la,lb,da,db,e1⟩:∃ a b:List Bnd,a.length<=8/\b.length<=8/\(∀ x∈a,Dt 1 x.2/\x.2.nodes<=7)/\(∀ x∈b,Dt 1 x.2/\x.2.nodes<=7)/\rn ⟨5,0,0⟩ [.sl code]=some (0,[.sl (a.map Bnd.row),.sl (b.map Bnd.row)]):=by
  obtain ⟨_,n1,i,h,rfl⟩:=new_ok hl;obtain ⟨_,n2,a,i,h,a1,a2,rfl⟩:=sub_ok hl i h;obtain ⟨_,n3,b,i,h,b1,b2,rfl⟩:=sub_ok hl i h;refine ⟨a,b,a1,b1,a2,b2,?_⟩;rw [e5_0_0];simp only [n1,n2,n3,nv0,nvS,dvI,dvB,dvS,dvL,B6]
 obtain ⟨c0,t,lt,e2⟩:∃ c0:List Bnd,∃ t:Tm,Wn 60 t/\rn ⟨6,0,0⟩ [.sl code]=some (0,[.int t.k,.int t.n,.str t.s,.sl (c0.map Bnd.row),.sl (t.as.map Tm.row)]):=by
  obtain ⟨_,n1,i,h,rfl⟩:=new_ok hl;obtain ⟨_,n2,a,i,h,a1,a2,rfl⟩:=sub_ok hl i h;obtain ⟨_,n3,t,i,h,t1,rfl⟩:=bent_ok hl i h;refine ⟨a,t,t1,?_⟩;rw [e6_0_0];simp only [n1,n2,n3,nv0,nvS,dvI,dvB,dvS,dvL,B6]
 obtain ⟨l,ns,ll,dl,ln,e3⟩:∃ l:List Bnd,∃ ns:List ByteArray,l.length<=8/\(∀ x∈l,Dt 1 x.2/\x.2.nodes<=7)/\ns.length<=4/\rn ⟨12,0,0⟩ [.sl code]=some (0,[.sl (ns.map sRow),.sl (l.map Bnd.row)]):=by
  obtain ⟨_,n1,i,h,rfl⟩:=new_ok hl;obtain ⟨_,n2,a,i,h,a1,a2,rfl⟩:=sub_ok hl i h;obtain ⟨_,n3,k,i,h,k0,k1,rfl⟩:=below_ok hl i h (n:=5) (by decide) (by decide)
  refine ⟨a,([⟨#[90]⟩,⟨#[88]⟩,⟨#[88]⟩,⟨#[81]⟩]:List ByteArray).take k.toNat,a1,a2,by rw [List.length_take]; exact Nat.min_le_right _ _,?_⟩
  rw [e12_0_0];simp only [n1,n2,n3,nv0,nvS,dvI,dvB,dvS,dvL,B6,C7,D4,D6,P5];rw [H7 k0,H7 (by omega:k<=((4:Nat):Int))]
  rw [List.map_take];rfl
 obtain ⟨x,y,lx,ly,dx,dy,e4⟩:∃ a b:List Bnd,a.length<=8/\b.length<=8/\(∀ x∈a,Dt 1 x.2/\x.2.nodes<=7)/\(∀ x∈b,Dt 1 x.2/\x.2.nodes<=7)/\rn ⟨14,0,0⟩ [.sl code]=some (0,[.sl (a.map Bnd.row),.sl (b.map Bnd.row)]):=by
  obtain ⟨_,n1,i,h,rfl⟩:=new_ok hl;obtain ⟨_,n2,a,i,h,a1,a2,rfl⟩:=sub_ok hl i h;obtain ⟨_,n3,q,i,h,rfl⟩:=once_ok hl i h (n:=2) (by decide) (by decide)
  obtain ⟨_,n4,b,i,h,b1,b2,rfl⟩:=sub_ok hl i h;cases hq:q with
  | true =>
   refine ⟨a,a,a1,a1,a2,a2,?_⟩;rw [e14_0_0];simp only [n1,n2,n3,hq,nv0,nvS,dvI,dvB,dvS,dvL,B6,D4,F9,C4];rw [show G7 (0+a.length) M63=true from nb (by omega)]
   rfl
  | false =>
   refine ⟨a,b,a1,b1,a2,b2,?_⟩;rw [e14_0_0];simp only [n1,n2,n3,n4,hq,nv0,nvS,dvI,dvB,dvS,dvL,B6,H2]
 have sa:=DSb.small da;have sb:=DSb.small db;have st:Small t:=lt.small (by decide)
 -- composition
 have lc:(cmS a b).length<=1048576:=by unfold cmS; rw [List.length_append,C4]; have:=List.length_filter_le (fun x=>(bnd a x.1).isNone) b; omega
 have sc:∀ x∈cmS a b,Small x.2:=fun x hx=>by
  unfold cmS at hx;rcases List.mem_append.1 hx with hx | hx
  · obtain ⟨z,hz,rfl⟩:=List.mem_map.1 hx
    exact aS_small sb _ (sa z hz)
  · exact sb x (List.mem_filter.1 hx).1
 have x1:=composeI a b (by omega) (by omega) sa sb
 have x2:=r9 (cmS a b) lc sc t st;have x3:=r9 a (by omega) sa t st
 have x4:=r9 b (by omega) sb (aS a t) (aS_small sa _ st)
 have x5:=r8 (aS (cmS a b) t) (aS b (aS a t)) (aS_small sc _ st);have x6:=composeS a b (by omega) (by omega) sa sb
 have x7:=sameBinds_ok (cmS a b) lc sc;rw [aS_cmS] at x2 x5;rw [eqb_refl] at x5
 -- restriction
 have sl:=DSb.small dl;have hsl:=srtN_len ns;have lr:(rsB l (srtN ns)).length<=1048576:=by unfold rsB; have:=List.length_filterMap_le (fun s=>(bnd l s).map fun v=>(s,v)) (srtN ns); omega
 have sr:∀ z∈rsB l (srtN ns),Small z.2:=fun z hz=>by
  unfold rsB at hz;obtain ⟨s,_,hs⟩:=List.mem_filterMap.1 hz;obtain ⟨v,hv,rfl⟩:=Option.map_eq_some_iff.1 hs;obtain ⟨w,hw,rfl⟩:=bnd_mem hv;exact sl w hw
 have x8:=r13 l (by omega) sl ns (by omega)
 have x9:=r15 l (by omega) sl ns (by omega)
 have x10:=sameBinds_ok (rsB l (srtN ns)) lr sr
 -- sameness
 have sx:=DSb.small dx;have sy:=DSb.small dy;have x11:=sameI x y (by omega) (by omega) sx sy
 have x12:=sameS x y (by omega) (by omega) sx sy
 have x13:=sameI a a (by omega) (by omega) sa sa
 rw [smB_refl] at x13;simp only [H2,e1,e2,e3,e4,nv0,nvS,dvI,dvB,dvS,dvL,B6,x1,x2,x3,x4,x5,x6,x7,x8,x9,x10,x11,x12,x13,beq_self_eq_true,Bool.not_true,H1]
theorem law3 {x0:List D} (h0:WL H x0 L22):rn ⟨3,0,0⟩ x0=some (0,[.bool true]):=by
 obtain ⟨a,rfl,_,hw⟩:=wl22 h0;exact law3r a
end Go.Q.S
namespace Go.Q.S
open Go Go.Q Go.Proofs
theorem ki3:H.ki ⟨3,0,0⟩=some ⟨[(0,argSh ((H.ty 22).getD default))],[],[⟨.ret,[(0,.bool)],[]⟩]⟩:=by kernel_rfl
theorem plain3:plainB Try.prog H [5,22]=true:=by kernel_rfl
end Go.Q.S
namespace Go.Proofs.Ytlhkpdimkimogaa.fnSubst
open Go Go.Q Go.Q.S
open Go.ChangeShapes Go.WideShapes Go.ChangeAt Go.RowKit
open Go.ChangeMaps (open_string shut_string)
theorem own:ownKnob Try.prog.godebug=none:=by kernel_rfl
theorem laid:laidOutB Try.prog=true:=by kernel_rfl
set_option maxRecDepth 100000 in
theorem lifted (os:Os) (started:os.Started) (H:Type) (enc:TypeId×Value->H) :
 ReturnsInHanded {} Try.checked os 3 .any (Rows.fnSubstSpec.pre6 enc Try.prog Try.f3 Rows.fnSubstRow.domain false) (Rows.fnSubstSpec.post enc Try.prog Try.f3 false true false false):=by
 refine returnsInHanded_of_change_sized (C:=Try.checked) own started (by kernel_rfl) Try.func3
  (ChangeSpec.witness6 (enc:=enc) (C:=Try.checked) false ⟨#[],#[.slice none 0 0],[]⟩ 8 (by kernel_rfl) (by kernel_rfl) (by kernel_rfl) (by kernel_rfl)) ?_
 intro W base args ds gs before hval0 hW hcnd hsz0 _;have hval:∀ (j:Nat) t v,Try.f3.params[j]?=some t->args[j]?=some v->Value.okWide Try.prog W .any base t v:=hval0;have hW':=hW;obtain ⟨p,q,hA0,hV,rfl,hfz,hnd⟩:=hW;have hA:DataW.TrodAll enc Try.prog W 0 (fun _=>true) true Try.f3.params.toList args.toList ds p:=hA0
 rw [Try.params3] at hA hval;obtain ⟨rfl,rfl⟩:=trodVars_none hV;have hB:=hA;obtain ⟨v0,d0,rfl,rfl,h0⟩:=trodAll_one hA;obtain ⟨dss,ha,hlen,hwl⟩:=args_data (H:=Go.Q.S.H) fits.ty plain3 _ _ _ _ hB (by decide) (fun j t v h h'=>hval j t v (by simpa using h) (by simpa using h'))
 obtain ⟨x0,rfl⟩:∃ x0,dss=[x0]:=by
  match dss,hlen with
  | [x0],_=>exact ⟨x0,rfl⟩
 obtain ⟨t0,e0,w0⟩:=hwl 0 _ _ rfl rfl;rw [ty22] at e0;obtain rfl:=Option.some.inj e0;refine (law_calls fits Try.func3 (by kernel_rfl) ki3 rfl rfl ha (fun _ h=>by cases h) (b:=true) (by show rn _ _=_; simpa using law3 w0)).mono fun e W' ⟨he,bel⟩=>?_
 subst he;exact ⟨_,rfl,_,_,_,[],p,_,hW',trodAll_mk1 (shut_bool Try.underlying4 _),trodAll_below laid _ _ _ _ (read_of (by kernel_rfl)) hB bel (fun z hz=>hW'.lt z (by simp [hz])),rfl,bel.frame _,fun h=>by cases h⟩
theorem over:Rows.fnSubstRow.holds Try.pinned (OpenSpec.ofChange Rows.fnSubstSpec) :=
 OpenClaim.holds_of_wide 3 Try.f3 rfl rfl rfl rfl rfl rfl rfl ⟨rfl,rfl,rfl,rfl,rfl⟩ rfl rfl rfl rfl rfl named Try.func3 closed
  (of_decide_eq_true (by kernel_rfl)) (by unfold Func.isWrapper; first | (rw [H5 (by decide +kernel)]; kernel_rfl) | (rw [H6 (by decide +kernel)]; exact ⟨rfl,rfl⟩))
  (fun os started H enc _=>lifted os started H enc)
theorem proved:Rows.FnSubstSaid:=over
end Go.Proofs.Ytlhkpdimkimogaa.fnSubst
namespace Go.Proofs.Ytlhkpdimkimogaa
theorem fnSubst_holds:Rows.FnSubstSaid:=fnSubst.proved
end Go.Proofs.Ytlhkpdimkimogaa
