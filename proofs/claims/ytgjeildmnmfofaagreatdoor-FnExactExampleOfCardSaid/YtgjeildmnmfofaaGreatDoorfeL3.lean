/- For all arguments the law FnExactExampleOf answers true and leaves its arguments as they were; no condition. -/
import Derived.Test.YtgjeildmnmfofaaGreatDoorQD
import Derived.Test.YtgjeildmnmfofaaGreatDoorQC
import Derived.Test.YtgjeildmnmfofaaGreatDoorPA
import Derived.Test.YtgjeildmnmfofaaGreatDoorfeE5
import Derived.Test.YtgjeildmnmfofaaGreatDoorRows
import Derived.WalkKit
import Derived.ProofKit
import Derived.OpenShut
import Derived.ShutString
import Derived.ChangeOld
import Derived.Below
import Derived.SizedLaws
import Derived.Test.YtgjeildmnmfofaaGreatDoorCards
import Derived.Test.YtgjeildmnmfofaaGreatDoorTie
import Derived.SevenTiedAt
import Derived.LaidMore
import Derived.Lay
import Derived.Stop.Joined
set_option linter.unusedVariables false
set_option linter.unusedSimpArgs false
namespace Go.Q.S
open Go Go.Q Go.Proofs
def L3:List CT:=[.int .i64]
theorem ty3:H.ty 3=some ⟨false,L3,[]⟩:=by kernel_rfl
theorem wl3 {ds:List D} (h:WL H ds L3):∃ a0,ds=[D.int a0]:=by
 unfold L3 at h;obtain ⟨a0,_,rfl,_,h⟩:=Dr h;obtain rfl:=Dq h;exact ⟨a0,rfl⟩
theorem Og {k:Int} (h:¬(1<=k/\k<=5)):rn ⟨3,0,0⟩ [.int k]=rn ⟨3,0,0⟩ [.int 0]:=by
 have a6:rn ⟨6,0,0⟩ [.int k]=rn ⟨6,0,0⟩ [.int 0]:=by
  have h1:∀ j:Int,¬(1<=j/\j<=5)->rn ⟨24,0,0⟩ [.int j,.int 1,.int 5]=some (0,[.bool false]):=fun j hj=>by
   rw [e24_0_0];by_cases h1:1<=j
   · have:¬ j<=5:=fun h=>hj ⟨h1,h⟩
     rw [H7 h1,H8 this]; rfl
   · rw [H8 h1]; rfl
  rw [e6_0_0,e6_0_0,h1 k h,h1 0 (by omega)]
  rfl
 have a7:rn ⟨7,0,0⟩ [.int k]=rn ⟨7,0,0⟩ [.int 0]:=by
  have h1:∀ j:Int,¬(1<=j/\j<=5)->rn ⟨27,0,0⟩ [.int j]=some (0,[.int 0,.str ⟨#[]⟩]):=fun j hj=>by
   rw [e27_0_0,H8 (by omega),H8 (by omega),H8 (by omega),H8 (by omega),H8 (by omega)]
   rfl
  rw [e7_0_0,e7_0_0,h1 k h,h1 0 (by omega)]
 rw [e3_0_0,e3_0_0,a6,a7]
theorem law3r (k:Int):rn ⟨3,0,0⟩ [.int k]=some (0,[.bool true]):=by
 by_cases h:1<=k/\k<=5
 · have h:k=1\/k=2\/k=3\/k=4\/k=5:=by omega
   rcases h with rfl | rfl | rfl | rfl | rfl
   · exact (evE tb 3000).2 _ _ _ (by kernel_rfl)
   · exact (evE tb 3000).2 _ _ _ (by kernel_rfl)
   · exact (evE tb 3000).2 _ _ _ (by kernel_rfl)
   · exact (evE tb 3000).2 _ _ _ (by kernel_rfl)
   · exact (evE tb 3000).2 _ _ _ (by kernel_rfl)
 · rw [Og h]
   exact (evE tb 3000).2 _ _ _ (by kernel_rfl)
theorem law3 {x0:List D} (h0:WL H x0 L3):rn ⟨3,0,0⟩ x0=some (0,[.bool true]):=by
 unfold L3 at h0;obtain ⟨n,_,rfl,hn,h3⟩:=Dr h0;obtain rfl:=Dq h3;exact law3r n
end Go.Q.S
namespace Go.Q.S
open Go Go.Q Go.Proofs
theorem ki3:H.ki ⟨3,0,0⟩=some ⟨[(0,qq ((H.ty 3).getD default))],[],[⟨.ret,[(0,.bool)],[]⟩]⟩:=by kernel_rfl
theorem Nl:uw Tryz.prog H [3]=true:=by kernel_rfl
end Go.Q.S
namespace Go.Proofs.YtgjeildmnmfofaaGreatDoor.fnExactExampleOf
open Go Go.Q Go.Q.S
open Go.ChangeShapes Go.WideShapes Go.ChangeAt Go.RowKit
open Go.ChangeMaps (open_string shut_string)
theorem Oh {W:World} (hS:W.ShapedOpen Tryz.prog) (hL:laidMetH Tryz.prog Rows.fnExactExampleOfRow.laid W):∀ p∈Go.Q.S.H.gv,p.1<W.heap.size/\∃ cs t z,W.heap[p.1]?=some (.cells cs t z)/\p.2 cs:=by
 intro p hp;have hp:p∈Go.Q.S.gvL:=hp;simp only [Go.Q.S.gvL,List.mem_cons,List.not_mem_nil,or_false] at hp;rcases hp with rfl | rfl
 · exact yy hS (t:=3) (zero:=#[.int .i64 0]) (of_decide_eq_true (by kernel_rfl)) (by kernel_rfl) rfl (by kernel_rfl) (by kernel_rfl) (by kernel_rfl)
 · rw [MakeChecks.laidMetH_plain _ _ _ (by kernel_rfl)] at hL
   exact yx 156 (hL.tail.tail.tail.tail.tail) (by kernel_rfl) (by kernel_rfl) (by kernel_rfl)
theorem own:ownKnob Tryz.prog.godebug=none:=by kernel_rfl
theorem laid:laidOutB Tryz.prog=true:=by kernel_rfl
set_option maxRecDepth 100000 in
theorem lifted (os:Os) (started:os.Started) (H:Type) (enc:TypeId×Value->H) :
 ReturnsInHanded {} Tryz.checked os 3 .any (fun w args=>(Rows.fnExactExampleOfSpec.pre enc Tryz.prog Tryz.f3 [] false w args/\laidMetH Tryz.prog Rows.fnExactExampleOfRow.laid w)/\sizedMet enc Tryz.prog Tryz.f3 (OpenSpec.ofChange Rows.fnExactExampleOfSpec) false w args) (Rows.fnExactExampleOfSpec.post enc Tryz.prog Tryz.f3 false true false false):=by
 refine mi (C:=Tryz.checked) (X:=fun w _=>laidMetH Tryz.prog Rows.fnExactExampleOfRow.laid w) (fun _ _ _ hh h=>h.of_heap hh) own started (by kernel_rfl) Tryz.func3
  (ChangeSpec.witness_shaped (enc:=enc) (C:=Tryz.checked) (os:=os) (X:=fun w _=>laidMetH Tryz.prog Rows.fnExactExampleOfRow.laid w) false (World.laidAll Tryz.prog os Rows.fnExactExampleOfRow.laid) #[.int .i64 0] 8 (World.laidAll_os _ _ _) (World.shaped_of_ZipB (by kernel_rfl) (by kernel_rfl)) (by kernel_rfl) (by kernel_rfl) (by kernel_rfl) (by rw [MakeChecks.laidMetH_plain _ _ _ (by kernel_rfl)]; exact laidMet_laidAll _ (by kernel_rfl) (by kernel_rfl))) ?_
 intro W base args ds gs before hval0 hW hS hL;have hval:∀ (j:Nat) t v,Tryz.f3.params[j]?=some t->args[j]?=some v->Value.okWide Tryz.prog W .any base t v:=hval0;have hW':=hW;obtain ⟨p,q,hA0,hV,rfl,hfz,hnd⟩:=hW;have hA:DataW.TrodAll enc Tryz.prog W 0 (fun _=>true) true Tryz.f3.params.toList args.toList ds p:=hA0
 rw [Tryz.params3] at hA hval;obtain ⟨rfl,rfl⟩:=trodVars_none hV;have hB:=hA;obtain ⟨v0,d0,rfl,rfl,h0⟩:=trodAll_one hA;obtain ⟨dss,ha,hlen,hwl⟩:=sf (H:=Go.Q.S.H) Oe.ty Nl _ _ _ _ hB (by decide) (fun j t v h h'=>hval j t v (by simpa using h) (by simpa using h'))
 obtain ⟨x0,rfl⟩:∃ x0,dss=[x0]:=by
  match dss,hlen with
  | [x0],_=>exact ⟨x0,rfl⟩
 obtain ⟨t0,e0,w0⟩:=hwl 0 _ _ rfl rfl;rw [ty3] at e0;obtain rfl:=Option.some.inj e0;refine (Bj Oe Tryz.func3 (by kernel_rfl) ki3 rfl rfl ha (Oh hS hL) (b:=true) (by show rn _ _=_; simpa using law3 w0)).mono fun e W' ⟨he,bel⟩=>?_
 subst he;exact ⟨_,rfl,_,_,_,[],p,_,hW',trodAll_mk1 (shut_bool Tryz.underlying4 _),kg laid _ _ _ _ (Hz (by kernel_rfl)) hB bel (fun z hz=>hW'.lt z (by simp [hz])),rfl,bel.frame _,fun h=>by cases h⟩
theorem over:Rows.fnExactExampleOfRow.holds Tryz.pinned (OpenSpec.ofChange Rows.fnExactExampleOfSpec) :=
 OpenClaim.holds_of_wide 3 Tryz.f3 rfl rfl rfl rfl rfl rfl rfl ⟨rfl,rfl,rfl,rfl,rfl⟩ rfl rfl rfl rfl rfl named Tryz.func3 nd
  (of_decide_eq_true (by kernel_rfl)) (by unfold Func.isWrapper; first | (rw [H5 (by decide +kernel)]; kernel_rfl) | (rw [H6 (by decide +kernel)]; exact ⟨rfl,rfl⟩))
  (fun os started H enc _=>lifted os started H enc)
theorem Hf:Rows.FnExactExampleOfSaid:=over
end Go.Proofs.YtgjeildmnmfofaaGreatDoor.fnExactExampleOf
namespace Go.Proofs.YtgjeildmnmfofaaGreatDoor
theorem fnExactExampleOfCard_holds:Rows.FnExactExampleOfCardSaid :=
 Claim7.holds_tied_plain_at .later [] [.data,.data,.data,.data,.sentinel,.sentinel,.pinned] true (true,"4da9eedb35273809e6708e7ed9d0f865f254a4b03d5cc75e54e9bd4489374a59") true
  fnExactExampleOf.over (fun _ h=>by cases h) (by kernel_rfl) (fun _ h=>by cases h) fnExactExampleOf_row_tie rfl ⟨rfl,rfl⟩ (by kernel_rfl) rfl
  (fun f fn hf hfn=>by
    obtain rfl:f=3:=Option.some.inj (fnExactExampleOf.named.symm.trans hf) |>.symm
    obtain rfl:fn=Tryz.f3:=(Option.some.inj (Tryz.func3.symm.trans hfn)).symm;exact ⟨by kernel_rfl,fun j t ht=>by
     rw [Tryz.params3] at ht;have hm:t∈[3]:=by simpa using Array.mem_of_getElem? ht
     have hall:([3].all fun u=>!Tryz.prog.wantsStandIn u)=true:=by kernel_rfl
     exact (show Tryz.prog.wantsStandIn t=false by simpa using List.all_eq_true.1 hall t hm)⟩)
  (by kernel_rfl)
end Go.Proofs.YtgjeildmnmfofaaGreatDoor
