/- For all arguments the law FnReplayed answers true and leaves its arguments as they were; no condition. -/
import Derived.Test.YtebncngjklhbfaaGreatPB
import Derived.Test.YtebncngjklhbfaaGreatfrE5
import Derived.Test.YtebncngjklhbfaaGreatRows
import Derived.WalkKit
import Derived.ProofKit
import Derived.OpenShut
import Derived.ShutString
import Derived.ChangeOld
import Derived.Below
import Derived.SizedLaws
set_option linter.unusedVariables false
set_option linter.unusedSimpArgs false
open Int renaming eq_ofNat_of_zero_le->R5
open List renaming length_map->B6,length_eq_zero_iff->F1
open Option renaming bind_some->B5,some->C7
namespace Go.Q.S
open Go Go.Q Go.Proofs
def L5:List CT:=[.int .u8]
theorem ty5:H.ty 5=some ⟨false,L5,[]⟩:=by kernel_rfl
theorem wl5 {ds:List D} (h:WL H ds L5):∃ a0,ds=[D.int a0]:=by
 unfold L5 at h;obtain ⟨a0,_,rfl,_,h⟩:=wl_int h;obtain rfl:=wl_nil h;exact ⟨a0,rfl⟩
def L22:List CT:=[.sl 5]
theorem ty22:H.ty 22=some ⟨false,L22,[]⟩:=by kernel_rfl
theorem wl22 {ds:List D} (h:WL H ds L22):∃ a0,ds=[D.sl a0]/\a0.length<=maxLen/\WRs H a0 L5:=by
 unfold L22 at h;obtain ⟨a0,_,rfl,b0,c0,h⟩:=wl_sl ty5 h;obtain rfl:=wl_nil h;exact ⟨a0,rfl,b0,c0⟩
theorem big_ok (code:Rows):rn ⟨7,0,0⟩ [.sl code]=some (0,[.bool (decide ((1048576:Int)<code.length))]):=by rw [e7_0_0]
theorem args13_ok {code:Rows} (hl:code.length<=1048576):∃ d:DfM,∃ t:Tm,∃ f:Int,DfB d/\Wn 3000 t/\-1000<=f/\f<=1000/\rn ⟨42,0,0⟩ [.sl code]=some (0,[.int t.k,.int t.n,.str t.s,.int f,.sl (d.so.map sRow),.sl (d.op.map OpM.row),.sl (d.ru.map RuM.row),.sl (d.st.map StM.row),.sl (t.as.map Tm.row)]):=by
 obtain ⟨_,e1,d,t,hd,ht,rfl⟩:=args12_ok hl;obtain ⟨_,e2,i,h,rfl⟩:=new_ok hl;obtain ⟨_,e3,f,i',h',f0,f1,rfl⟩:=pickI_ok hl i h (l:=[[.int 200],[.int 50],[.int 10],[.int 3],[.int 1],[.int 0],[.int (-1)],[.int 201]]) (by decide) (by decide) (by decide)
 refine ⟨d,t,f,hd,ht,f0,f1,?_⟩;rw [e42_0_0];simp only [e1,e2,e3,nv0,nvS,dvI,dvB,dvS,dvL,B5]
theorem dreplay_ok {code:Rows} (hl:code.length<=1048576):∃ d:DfM,∃ t:Tm,∃ l:List (Nat × List Int),DfB d/\Wn 3000 t/\l.length<=200/\(∀ x∈l,x.2.length<=60)/\rn ⟨25,0,0⟩ [.sl code]=some (0,[.int t.k,.int t.n,.str t.s,.sl (d.so.map sRow),.sl (d.op.map OpM.row),.sl (d.ru.map RuM.row),.sl (d.st.map StM.row),.sl (t.as.map Tm.row),.sl (l.map rdRow)]):=by
 obtain ⟨d,t,f,hd,ht,f0,f1,e1⟩:=args13_ok hl;obtain ⟨_,e2,i,h,rfl⟩:=new_ok hl;have e3:=r21 d hd t ht.w (by have:=ht.n; omega) 10
 obtain ⟨g1,g2⟩:=tr_good hd ht.w 10;rw [trD_eq] at e3;generalize trL (runT d t 10)=L at e3 g1 g2;have hL:∀ x∈L,x.2.length<=60:=fun x hx=>(g2 x hx).2.1
 have base:∀ (l:List (Nat × List Int)),l.length<=200->(∀ x∈l,x.2.length<=60)->rn ⟨25,0,0⟩ [.sl code]=some (0,[.int t.k,.int t.n,.str t.s,.sl (d.so.map sRow),.sl (d.op.map OpM.row),.sl (d.ru.map RuM.row),.sl (d.st.map StM.row),.sl (t.as.map Tm.row),.sl (l.map rdRow)])->∃ d:DfM,∃ t:Tm,∃ l:List (Nat × List Int),DfB d/\Wn 3000 t/\l.length<=200/\(∀ x∈l,x.2.length<=60)/\rn ⟨25,0,0⟩ [.sl code]=some (0,[.int t.k,.int t.n,.str t.s,.sl (d.so.map sRow),.sl (d.op.map OpM.row),.sl (d.ru.map RuM.row),.sl (d.st.map StM.row),.sl (t.as.map Tm.row),.sl (l.map rdRow)]):=fun l h1 h2 h3=>⟨d,t,l,hd,ht,h1,h2,h3⟩
 by_cases h0:0<L.length
 · have e0:decide ((0:Int)<(L.length:Int))=true:=H7 (by omega)
   obtain ⟨_,e4,q,i1,h1,rfl⟩:=once_ok hl i h (n:=4) (by decide) (by decide)
   cases hq:q with
   | false =>
    refine base L g1 hL ?_;rw [e25_0_0];simp only [e1,e2,nv0,nvS,dvI,dvB,dvS,dvL,B5,e3,B6,e0,H1,e4,hq,H2]
   | true =>
    obtain ⟨_,e5,b,i2,h2,b0,b1,rfl⟩:=below_ok hl i1 h1 (n:=(L.length:Int)) (by omega) (by omega)
    obtain ⟨_,e6,c,i3,h3,c0,c1,rfl⟩:=below_ok hl i2 h2 (n:=4) (by decide) (by decide)
    obtain ⟨m,rfl⟩:=R5 b0;obtain ⟨k,rfl⟩:=R5 c0;have hm:m<L.length:=by omega
    refine base (L.set m (k,L[m].2)) (by simpa using g1) (fun x hx=>?_) ?_
    · rcases List.mem_or_eq_of_mem_set hx with hx | rfl
      · exact hL x hx
      · show L[m].2.length<=60
        exact hL L[m] (List.getElem_mem hm)
    · rw [e25_0_0]
      simp only [e1,e2,nv0,nvS,dvI,dvB,dvS,dvL,B5,e3,B6,e0,H1,e4,hq,e5,e6,inbN,hm,H3,Int.toNat_natCast];have:over m [over 0 [D.int (k:Int)] (rowAt (L.map rdRow) m)] (L.map rdRow)=(L.set m (k,L[m].2)).map rdRow:=by
       rw [rowAt_map hm];have e:over 0 [D.int (k:Int)] (rdRow L[m])=rdRow (k,L[m].2):=rfl;rw [e,over_eq _ _ _ (by simp; omega),List.map_set,List.set_eq_take_append_cons_drop,H5 (by simpa using hm)]
       simp
      rw [this]
 · have hn:L=[]:=F1.1 (by omega)
   refine base L g1 hL ?_;rw [e25_0_0];have e0:decide ((0:Int)<(L.length:Int))=false:=H8 (by omega)
   simp only [e1,e2,nv0,nvS,dvI,dvB,dvS,dvL,B5,e3,B6,e0,H2]
theorem dreach_ok {code:Rows} (hl:code.length<=1048576):∃ d:DfM,∃ t u:Tm,∃ f:Int,DfB d/\Wn 3000 t/\rn ⟨27,0,0⟩ [.sl code]=some (0,[.int t.k,.int t.n,.str t.s,.int u.k,.int u.n,.str u.s,.int f,.sl (d.so.map sRow),.sl (d.op.map OpM.row),.sl (d.ru.map RuM.row),.sl (d.st.map StM.row),.sl (t.as.map Tm.row),.sl (u.as.map Tm.row)]):=by
 obtain ⟨d,t,f,hd,ht,f0,f1,e1⟩:=args13_ok hl;obtain ⟨_,e2,i,h,rfl⟩:=new_ok hl;obtain ⟨_,e4,q,i1,h1,rfl⟩:=once_ok hl i h (n:=3) (by decide) (by decide)
 cases hq:q with
 | true =>
  obtain ⟨_,e5,u,i2,h2,hu,rfl⟩:=dconf_ok hl i1 h1;refine ⟨d,t,u,f,hd,ht,?_⟩;rw [e27_0_0];simp only [e1,e2,nv0,nvS,dvI,dvB,dvS,dvL,B5,e4,hq,H1,e5]
 | false =>
  obtain ⟨_,e5,b,i2,h2,b0,b1,rfl⟩:=below_ok hl i1 h1 (n:=6) (by decide) (by decide)
  have e6:=r19 d hd t ht.w (by have:=ht.n; omega) b
  rw [rtD_eq] at e6;refine ⟨d,t,rtT (runT d t b),f,hd,ht,?_⟩;rw [e27_0_0];simp only [e1,e2,nv0,nvS,dvI,dvB,dvS,dvL,B5,e4,hq,H2,e5,e6]
theorem law5r (code:Rows):rn ⟨5,0,0⟩ [.sl code]=some (0,[.bool true]):=by
 rw [e5_0_0,big_ok];simp only [nv0,nvS,dvI,dvB,dvS,dvL,B5];by_cases hl:code.length<=1048576
 case neg=>rw [H7 (by omega:(1048576:Int)<code.length)]; rfl
 rw [H8 (by omega:¬(1048576:Int)<code.length)]
 obtain ⟨d,t,l,hd,ht,l1,l2,e1⟩:=dreplay_ok hl;obtain ⟨e,s,u,f,he,hs,e2⟩:=dreach_ok hl;have x1:=replayI d hd t ht.w (by have:=ht.n; omega) l (by omega) (fun x hx=>by have:=l2 x hx; omega)
 have x2:=replayS d hd t ht.w (by have:=ht.n; omega) l (by omega)
 have x3:=r23 e he s hs.w (by have:=hs.n; omega) u f
 have x4:=r28 e he s hs.w (by have:=hs.n; omega) u f
 have hnn:∀ p:Bool,(p==p)=true:=fun p=>by cases p <;> rfl
 have ht0:Small t:=ht.small (by decide)
 cases hq:(if cfg d t=true then rpF d t l else none) with
 | none =>
  have y1:=r12 tm0 tm0 (small_of _ (by decide))
  rw [eqb_refl] at y1;have y2:rn ⟨12,0,0⟩ [.int 0,.int 0,.str ⟨#[]⟩,.sl [],.int 0,.int 0,.str ⟨#[]⟩,.sl []]=some (0,[.bool true]):=y1;rw [hq] at x1 x2;simp only [rpD] at x1 x2;simp only [H2,e1,nv0,nvS,dvI,dvB,dvS,dvL,B5,x1,x2,hnn,Bool.not_true,Bool.not_false,y2,e2,x3,x4,H1]
 | some w =>
  have hw:Small w/\(l=[]->w=t):=by
   by_cases hc:cfg d t=true
   · rw [H5 hc] at hq
     obtain ⟨hdg,htg,hn⟩:=cfg_of hd ht.w hc;obtain ⟨_,h2⟩:=rp_good hdg l t w htg hn hq;exact ⟨small_of _ (by omega),fun e=>by subst e; simp only [rpF,C7.injEq] at hq; exact hq.symm⟩
   · rw [H6 hc] at hq; simp at hq
  have y1:=r12 w w hw.1;rw [eqb_refl] at y1;rw [hq] at x1 x2;simp only [rpD] at x1 x2;simp only [H2,e1,nv0,nvS,dvI,dvB,dvS,dvL,B5,x1,x2,hnn,Bool.not_true,Bool.not_false,y1,e2,x3,x4,H1,B6];by_cases h0:0<l.length
  · rw [H7 (by omega:(0:Int)<(l.length:Int))]; rfl
  · rw [H8 (by omega:¬(0:Int)<(l.length:Int))]
    have hn:l=[]:=F1.1 (by omega)
    rw [hw.2 hn] at y1;rw [hw.2 hn];simp only [H2,y1,nv0,nvS,dvI,dvB,dvS,dvL,B5]
theorem law5 {x0:List D} (h0:WL H x0 L22):rn ⟨5,0,0⟩ x0=some (0,[.bool true]):=by
 obtain ⟨a,rfl,_,_⟩:=wl22 h0;exact law5r a
end Go.Q.S
namespace Go.Q.S
open Go Go.Q Go.Proofs
theorem ki5:H.ki ⟨5,0,0⟩=some ⟨[(0,argSh ((H.ty 22).getD default))],[],[⟨.ret,[(0,.bool)],[]⟩]⟩:=by kernel_rfl
theorem plain5:plainB Tryz.prog H [5,22]=true:=by kernel_rfl
end Go.Q.S
namespace Go.Proofs.YtebncngjklhbfaaGreat.fnReplayed
open Go Go.Q Go.Q.S
open Go.ChangeShapes Go.WideShapes Go.ChangeAt Go.RowKit
open Go.ChangeMaps (open_string shut_string)
theorem own:ownKnob Tryz.prog.godebug=none:=by kernel_rfl
theorem laid:laidOutB Tryz.prog=true:=by kernel_rfl
set_option maxRecDepth 100000 in
theorem lifted (os:Os) (started:os.Started) (H:Type) (enc:TypeId × Value->H) :
 ReturnsInHanded {} Tryz.checked os 5 .any (Rows.fnReplayedSpec.pre6 enc Tryz.prog Tryz.f5 Rows.fnReplayedRow.domain false) (Rows.fnReplayedSpec.post enc Tryz.prog Tryz.f5 false true false false):=by
 refine returnsInHanded_of_change_sized (C:=Tryz.checked) own started (by kernel_rfl) Tryz.func5
  (ChangeSpec.witness6 (enc:=enc) (C:=Tryz.checked) false ⟨#[],#[.slice none 0 0],[]⟩ 8 (by kernel_rfl) (by kernel_rfl) (by kernel_rfl) (by kernel_rfl)) ?_
 intro W base args ds gs before hval0 hW hcnd hsz0 _;have hval:∀ (j:Nat) t v,Tryz.f5.params[j]?=some t->args[j]?=some v->Value.okWide Tryz.prog W .any base t v:=hval0;have hW':=hW;obtain ⟨p,q,hA0,hV,rfl,hfz,hnd⟩:=hW;have hA:DataW.TrodAll enc Tryz.prog W 0 (fun _=>true) true Tryz.f5.params.toList args.toList ds p:=hA0
 rw [Tryz.params5] at hA hval;obtain ⟨rfl,rfl⟩:=trodVars_none hV;have hB:=hA;obtain ⟨v0,d0,rfl,rfl,h0⟩:=trodAll_one hA;obtain ⟨dss,ha,hlen,hwl⟩:=args_data (H:=Go.Q.S.H) fits.ty plain5 _ _ _ _ hB (by decide) (fun j t v h h'=>hval j t v (by simpa using h) (by simpa using h'))
 obtain ⟨x0,rfl⟩:∃ x0,dss=[x0]:=by
  match dss,hlen with
  | [x0],_=>exact ⟨x0,rfl⟩
 obtain ⟨t0,e0,w0⟩:=hwl 0 _ _ rfl rfl;rw [ty22] at e0;obtain rfl:=C7.inj e0;refine (law_calls fits Tryz.func5 (by kernel_rfl) ki5 rfl rfl ha (b:=true) (by show rn _ _=_; simpa using law5 w0)).mono fun e W' ⟨he,bel⟩=>?_
 subst he;exact ⟨_,rfl,_,_,_,[],p,_,hW',trodAll_mk1 (shut_bool Tryz.underlying4 _),trodAll_below laid _ _ _ _ (read_of (by kernel_rfl)) hB bel (fun z hz=>hW'.lt z (by simp [hz])),rfl,bel.frame _,fun h=>by cases h⟩
theorem over:Rows.fnReplayedRow.holds Tryz.pinned (OpenSpec.ofChange Rows.fnReplayedSpec) :=
 OpenClaim.holds_of_wide 5 Tryz.f5 rfl rfl rfl rfl rfl rfl rfl ⟨rfl,rfl,rfl,rfl,rfl⟩ rfl rfl rfl rfl rfl named Tryz.func5 closed
  (of_decide_eq_true (by kernel_rfl)) (by unfold Func.isWrapper; first | (rw [H5 (by decide +kernel)]; kernel_rfl) | (rw [H6 (by decide +kernel)]; exact ⟨rfl,rfl⟩))
  (fun os started H enc _=>lifted os started H enc)
theorem proved:Rows.FnReplayedSaid:=over
end Go.Proofs.YtebncngjklhbfaaGreat.fnReplayed
namespace Go.Proofs.YtebncngjklhbfaaGreat
theorem fnReplayed_holds:Rows.FnReplayedSaid:=fnReplayed.proved
end Go.Proofs.YtebncngjklhbfaaGreat
