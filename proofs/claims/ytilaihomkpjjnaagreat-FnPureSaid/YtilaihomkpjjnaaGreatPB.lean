/- The functions of this seat, as that machine runs them, part 2. -/
import Derived.Test.YtilaihomkpjjnaaGreatPA
import Derived.Test.YtilaihomkpjjnaaGreatMA
import Derived.Test.YtilaihomkpjjnaaGreatQD
import Derived.Test.YtilaihomkpjjnaaGreatfpX2
import Derived.Test.YtilaihomkpjjnaaGreatChecked
set_option linter.unusedVariables false
set_option linter.unusedSimpArgs false
open Int renaming toNat_natCast->B8,natCast_zero->C6,toNat->O2
open List renaming length_map->B6,length_cons->C1,map_cons->C2,length_nil->C7,mem_append->D0,map_nil->D1,map_append->D5,mem_cons->E0,all_eq_true->E4,mem_singleton->E8,not_mem_nil->Q1
open Nat renaming zero_add->D4,beq_refl->E2,beq->E6,ble->F6,le_refl->F7,le_trans->G8
open Option renaming bind_some->B5,some->C9
section
namespace Go.Q.S
open Go Go.Q Go.Proofs
theorem Tc {code:aa} (hl:code.length<=1048576) (i:Nat) (h:Int):aj (rn ⟨137,0,0⟩ [.sl code,.int (i:Int),.int h]) fun x=>∃ b:Int,∃ i':Nat,∃ h':Int,0<=b/\b<=255/\x=(0,[.int b,.sl code,.int ((i':Nat):Int),.int h']):=by
 rw [e137_0_0];rw [H7 (by decide:(0:Int)<=33),H7 (by decide:(0:Int)<=45)]
 simp only [H1];by_cases hi:i<code.length
 · rw [H7 (by omega:(i:Int)<(code.length:Int))]
   simp only [H1,ax,hi,H3,af hi (by unfold maxLen; omega)]
   obtain ⟨h1,h2⟩:=Pk (IntKind.i64.wrap ((zq .i64 (Lm .i64 (zr .i64 (IntKind.i64.wrap ((IntKind.i64.wrap (h*6364136223846793005))+1442695040888963407)) 33) (zr .i64 (IntKind.i64.wrap ((IntKind.i64.wrap (h*6364136223846793005))+1442695040888963407)) 45)) 255)+(IntKind.i64.wrap ((nth (rowAt code (O2 (i:Int))) 0).I))));exact aj.ret ⟨_,i+1,_,h1,h2,rfl⟩
 · rw [H8 (by omega:¬(i:Int)<(code.length:Int))]
   simp only [H2];obtain ⟨h1,h2⟩:=Pk (Lm .i64 (zr .i64 (IntKind.i64.wrap ((IntKind.i64.wrap (h*6364136223846793005))+1442695040888963407)) 33) (zr .i64 (IntKind.i64.wrap ((IntKind.i64.wrap (h*6364136223846793005))+1442695040888963407)) 45));exact aj.ret ⟨_,i,_,h1,h2,rfl⟩
theorem bh {code:aa} (hl:code.length<=1048576) (i:Nat) (h:Int) {n:Int} (h0:0<n) (h1:n<=256):aj (rn ⟨74,0,0⟩ [.int n,.sl code,.int (i:Int),.int h]) fun x=>∃ b:Int,∃ i':Nat,∃ h':Int,0<=b/\b<n/\x=(0,[.int b,.sl code,.int ((i':Nat):Int),.int h']):=by
 rw [e74_0_0];rw [H8 (by omega:¬ n<=0),H7 h1]
 simp only [H1,H2];refine aj.bind (Tc hl i h) ?_
 rintro _ ⟨b,i',h',b0,b1,rfl⟩
 simp only [nv0,nvS,dvI,dvB,dvS,dvL,B5];rw [H8 (by omega:¬ n=0)]
 exact aj.ret ⟨_,i',h',Int.tmod_nonneg _ b0,Int.tmod_lt_of_pos _ h0,rfl⟩
theorem bv {code:aa} (hl:code.length<=1048576) (i:Nat) (h:Int) {n:Int} (h0:0<n) (h1:n<=256):aj (rn ⟨40,0,0⟩ [.int n,.sl code,.int (i:Int),.int h]) fun x=>∃ b:Bool,∃ i':Nat,∃ h':Int,x=(0,[.bool b,.sl code,.int ((i':Nat):Int),.int h']):=by
 rw [e40_0_0];refine aj.bind (bh hl i h h0 h1) ?_
 rintro _ ⟨b,i',h',b0,b1,rfl⟩
 exact aj.ret ⟨_,i',h',rfl⟩
theorem dw {code:aa} (hl:code.length<=1048576) (i:Nat) (h:Int) {l:aa} (h0:0<l.length) (h1:l.length<=256) (m:Nat) (hs:∀ k,k<l.length->((nth (rowAt l k) 0).S).size<=m):aj (rn ⟨90,0,0⟩ [.sl l,.sl code,.int (i:Int),.int h]) fun x=>∃ s:ByteArray,∃ i':Nat,∃ h':Int,s.size<=m/\x=(0,[.str s,.sl code,.int ((i':Nat):Int),.int h']):=by
 rw [e90_0_0];refine aj.bind (bh hl i h (by omega:(0:Int)<(l.length:Int)) (by omega)) ?_
 rintro _ ⟨b,i',h',b0,b1,rfl⟩
 simp only [nv0,nvS,dvI,dvB,dvS,dvL,B5];rw [show inb b l.length=true from by simp [inb,b0,b1]]
 exact aj.ret ⟨_,i',h',hs b.toNat (by omega),rfl⟩
theorem zp {code:aa} (hl:code.length<=1048576) (i:Nat) (h:Int) {l:aa} (h0:0<l.length) (h1:l.length<=256) (hs:∀ k,k<l.length->-1000<=(nth (rowAt l k) 0).I/\(nth (rowAt l k) 0).I<=1000):aj (rn ⟨29,0,0⟩ [.sl l,.sl code,.int (i:Int),.int h]) fun x=>∃ n:Int,∃ i':Nat,∃ h':Int,-1000<=n/\n<=1000/\x=(0,[.int n,.sl code,.int ((i':Nat):Int),.int h']):=by
 rw [e29_0_0];refine aj.bind (bh hl i h (by omega:(0:Int)<(l.length:Int)) (by omega)) ?_
 rintro _ ⟨b,i',h',b0,b1,rfl⟩
 simp only [nv0,nvS,dvI,dvB,dvS,dvL,B5];rw [show inb b l.length=true from by simp [inb,b0,b1]]
 exact aj.ret ⟨_,i',h',(hs b.toNat (by omega)).1,(hs b.toNat (by omega)).2,rfl⟩
theorem Hu {code:aa} (hl:code.length<=1048576) (i:Nat) (h:Int) (ts:List Tm) (h0:0<ts.length) (h1:ts.length<=256):aj (rn ⟨147,0,0⟩ [.sl (ts.map Tm.row),.sl code,.int (i:Int),.int h]) fun x=>∃ t:Tm,∃ i':Nat,∃ h':Int,t∈ts/\x=(0,[.int t.k,.int t.n,.str t.s,.sl (t.as.map Tm.row),.sl code,.int ((i':Nat):Int),.int h']):=by
 rw [e147_0_0,B6];refine aj.bind (bh hl i h (by omega:(0:Int)<(ts.length:Int)) (by omega)) ?_
 rintro _ ⟨b,i',h',b0,b1,rfl⟩
 obtain ⟨n,rfl⟩:=Int.eq_ofNat_of_zero_le b0;have hn:n<ts.length:=by omega
 simp only [nv0,nvS,dvI,dvB,dvS,dvL,B5,ax,hn,H3,H1,B8,ab hn,Tm.row_eq];exact aj.ret ⟨ts[n],i',h',List.getElem_mem hn,rfl⟩
theorem Jm {code:aa} (hl:code.length<=1048576):aj (rn ⟨30,0,0⟩ [.sl code]) fun x=>∃ i':Nat,∃ h':Int,x=(0,[.sl code,.int ((i':Nat):Int),.int h']):=by
 have key:∀ (n i:Nat) (h:Int),i+n=code.length->∃ h':Int,rn ⟨30,0,1⟩ [.sl code,.int h,.int (i:Int)]=some (0,[.sl code,.int h']):=by
  intro n;induction n with
  | zero =>
   intro i h hi;rw [e30_0_1,H8 (by omega:¬(i:Int)<(code.length:Int))]
   exact ⟨_,rfl⟩
  | succ n ih =>
   intro i h hi;have hlt:i<code.length:=by omega
   rw [e30_0_1,H7 (by omega:(i:Int)<(code.length:Int))]
   simp only [H1,ax,hlt,H3,af hlt (by unfold maxLen; omega)]
   cases decide ((i:Int)<4000) with
   | true=>exact ih (i+1) _ (by omega)
   | false=>exact ⟨_,rfl⟩
 rw [e30_0_0];obtain ⟨h',e⟩:=key code.length 0 (IntKind.i64.wrap (26583+(code.length:Int))) (D4 _);simp only [C6] at e;rw [e];exact aj.ret ⟨0,h',rfl⟩
theorem r96 (s:ByteArray):rn ⟨96,0,0⟩ [.str s]=some (0,[.int 1,.int 0,.str s,.sl []]):=by rw [e96_0_0]
theorem r148 (s:ByteArray) (l:aa):rn ⟨148,0,0⟩ [.str s,.sl l]=some (0,[.int 2,.int 0,.str s,.sl l]):=by rw [e148_0_0]
theorem r148b (s:ByteArray) (l:aa):rn ⟨148,1,0⟩ [.str s,.sl l]=some (0,[.int 2,.int 0,.str s,.sl l]):=by rw [e148_1_0]
theorem r136 (s:ByteArray) (t:Tm):rn ⟨136,0,0⟩ [.str s,.int t.k,.int t.n,.str t.s,.sl (t.as.map Tm.row)]=some (0,[.int 2,.int 0,.str s,.sl [t.row]]):=by
 rw [e136_0_0];simp only [r148,r148b,nv0,nvS,dvI,dvB,dvS,dvL,B5,Tm.row_eq t]
theorem r146 (s:ByteArray) (t u:Tm):rn ⟨146,0,0⟩ [.str s,.int t.k,.int t.n,.str t.s,.sl (t.as.map Tm.row),.int u.k,.int u.n,.str u.s,.sl (u.as.map Tm.row)]=some (0,[.int 2,.int 0,.str s,.sl [t.row,u.row]]):=by
 rw [e146_0_0];simp only [r148,r148b,nv0,nvS,dvI,dvB,dvS,dvL,B5,Tm.row_eq t,Tm.row_eq u]
def DTk (code:aa) (k m:Nat) (x:Nat×List D):Prop:=∃ t:Tm,∃ i':Nat,∃ h':Int,Dt k t/\t.nodes<=m/\x=(0,[.int t.k,.int t.n,.str t.s,.sl code,.int (i':Int),.int h',.sl (t.as.map Tm.row)])
theorem lfV {code:aa} {k m:Nat} {s:ByteArray} {i:Nat} {h:Int} (hs:s.size<=k) (hm:1<=m):aj (some (0,[.int 1,.int 0,.str s,.sl code,.int (i:Int),.int h,.sl []])) (DTk code k m) :=
 aj.ret ⟨.mk 1 0 s [],i,h,.var hs,by simp [Tm.nodes,Tm.nodesL]; exact hm,rfl⟩
theorem lfC {code:aa} {k m:Nat} {s:ByteArray} {i:Nat} {h:Int} (hs:s.size<=k) (hm:1<=m):aj (some (0,[.int 2,.int 0,.str s,.sl code,.int (i:Int),.int h,.sl []])) (DTk code k m) :=
 aj.ret ⟨.mk 2 0 s [],i,h,.app hs (by simp) (by simp),by simp [Tm.nodes,Tm.nodesL]; exact hm,rfl⟩
theorem lfW {code:aa} {k m:Nat} {n:Int} {i:Nat} {h:Int} (h0:0<=n) (h1:n<=255) (hm:1<=m):aj (some (0,[.int 3,.int n,.str ⟨#[]⟩,.sl code,.int (i:Int),.int h,.sl []])) (DTk code k m) :=
 aj.ret ⟨.mk 3 n ⟨#[]⟩ [],i,h,.word h0 h1,by simp [Tm.nodes,Tm.nodesL]; exact hm,rfl⟩
theorem lf1 {code:aa} {k m:Nat} {s:ByteArray} {t:Tm} {i:Nat} {h:Int} (hs:s.size<=k) (ht:Dt k t) (hm:t.nodes+1<=m):aj (some (0,[.int 2,.int 0,.str s,.sl code,.int (i:Int),.int h,.sl [t.row]])) (DTk code k m) :=
 aj.ret ⟨.mk 2 0 s [t],i,h,.app hs (by simp) (by simpa using ht),by simp [Tm.nodes,Tm.nodesL]; omega,rfl⟩
theorem lf2 {code:aa} {k m:Nat} {s:ByteArray} {t u:Tm} {i:Nat} {h:Int} (hs:s.size<=k) (ht:Dt k t) (hu:Dt k u) (hm:t.nodes+u.nodes+1<=m):aj (some (0,[.int 2,.int 0,.str s,.sl code,.int (i:Int),.int h,.sl [t.row,u.row]])) (DTk code k m) :=
 aj.ret ⟨.mk 2 0 s [t,u],i,h,.app hs (by simp) (by simp [ht,hu]),by simp [Tm.nodes,Tm.nodesL]; omega,rfl⟩
theorem Td {code:aa} (hl:code.length<=1048576):∀ (d:Nat) (g:Bool) (i:Nat) (h:Int),d<=64->aj (rn ⟨154,0,0⟩ [.int (d:Int),.bool g,.sl code,.int (i:Int),.int h]) (DTk code 1 (2 ^ (d+1)-1)):=by
 intro d;induction d with
 | zero =>
  intro g i h hd;rw [e154_0_0,H7 (by decide:((0:Nat):Int)<2)]
  simp only [H1];repeat' (first
   | refine aj.ite (fun _=>?_) (fun _=>?_)
   | (refine aj.bind (bv hl _ _ (by decide) (by decide)) ?_; rintro _ ⟨b,i,h,rfl⟩; simp only [nv0,nvS,dvI,dvB,dvS,dvL,B5])
   | (refine aj.bind (bh hl _ _ (by decide) (by decide)) ?_; rintro _ ⟨b,i,h,_,_,rfl⟩; simp only [nv0,nvS,dvI,dvB,dvS,dvL,B5])
   | (refine aj.bind (dw hl _ _ (by decide) (by decide) 1 (by decide)) ?_; rintro _ ⟨b,i,h,_,rfl⟩; simp only [nv0,nvS,dvI,dvB,dvS,dvL,B5])
   | (simp only [r96,r131,r148,r148b,nv0,nvS,dvI,dvB,dvS,dvL,B5]))
  all_goals (first | exact lfV (by assumption) (by decide) | exact lfC (by assumption) (by decide) | exact lfW (by assumption) (by omega) (by decide))
 | succ d ih =>
  intro g i h hd;have hp:2 ^ (d+1+1)=2*2 ^ (d+1):=by omega
  have h1:1<=2 ^ (d+1):=Nat.one_le_pow _ _ (by decide)
  rw [e154_0_0];simp only [H2,yt (show d<=64 by omega)]
  repeat' (first
   | refine aj.ite (fun _=>?_) (fun _=>?_)
   | (refine aj.bind (ih _ _ _ (by omega)) ?_; rintro _ ⟨t,i,h,_,_,rfl⟩; simp only [nv0,nvS,dvI,dvB,dvS,dvL,B5])
   | (refine aj.bind (bv hl _ _ (by decide) (by decide)) ?_; rintro _ ⟨b,i,h,rfl⟩; simp only [nv0,nvS,dvI,dvB,dvS,dvL,B5])
   | (refine aj.bind (bh hl _ _ (by decide) (by decide)) ?_; rintro _ ⟨b,i,h,_,_,rfl⟩; simp only [nv0,nvS,dvI,dvB,dvS,dvL,B5])
   | (refine aj.bind (dw hl _ _ (by decide) (by decide) 1 (by decide)) ?_; rintro _ ⟨b,i,h,_,rfl⟩; simp only [nv0,nvS,dvI,dvB,dvS,dvL,B5])
   | (simp only [r96,r131,r148,r148b,r136,r146,nv0,nvS,dvI,dvB,dvS,dvL,B5]))
  all_goals (first | exact lfV (by assumption) (by omega) | exact lfC (by assumption) (by omega) | exact lfW (by assumption) (by omega) (by omega) | exact lf1 (by first | assumption | decide) (by assumption) (by omega) | exact lf2 (by first | assumption | decide) (by assumption) (by assumption) (by omega))
end Go.Q.S
end
section
namespace Go.Q.S
open Go Go.Q Go.Proofs
theorem xf {code:aa} (hl:code.length<=1048576):∀ (d:Nat) (g:Bool) (i:Nat) (h:Int),d<=64->aj (rn ⟨95,0,0⟩ [.str (⟨#[119,111,114,100]⟩:ByteArray),.int (d:Int),.bool g,.sl code,.int (i:Int),.int h]) (DTk code 8 (4 ^ d)):=by
 intro d;induction d with
 | zero =>
  intro g i h hd;rw [e95_0_0];rw [H7 (rfl:(⟨#[119,111,114,100]⟩:ByteArray)=(⟨#[119,111,114,100]⟩:ByteArray)),H8 (by decide:¬(1:Int)<((0:Nat):Int))]
  simp only [H1,H2];repeat' (first
   | refine aj.ite (fun _=>?_) (fun _=>?_)
   | (refine aj.bind (bv hl _ _ (by decide) (by decide)) ?_; rintro _ ⟨b,i,h,rfl⟩; simp only [nv0,nvS,dvI,dvB,dvS,dvL,B5])
   | (refine aj.bind (bh hl _ _ (by decide) (by decide)) ?_; rintro _ ⟨b,i,h,_,_,rfl⟩; simp only [nv0,nvS,dvI,dvB,dvS,dvL,B5])
   | (refine aj.bind (dw hl _ _ (by decide) (by decide) 8 (by decide)) ?_; rintro _ ⟨b,i,h,_,rfl⟩; simp only [nv0,nvS,dvI,dvB,dvS,dvL,B5])
   | (simp only [r96,r131,r148,r148b,nv0,nvS,dvI,dvB,dvS,dvL,B5]))
  all_goals (first | exact lfV (by assumption) (by decide) | exact lfW (by assumption) (by omega) (by decide))
 | succ d ih =>
  intro g i h hd;have hp:4 ^ (d+1)=4*4 ^ d:=by omega
  have h1:1<=4 ^ d:=Nat.one_le_pow _ _ (by decide)
  rw [e95_0_0];rw [H7 (rfl:(⟨#[119,111,114,100]⟩:ByteArray)=(⟨#[119,111,114,100]⟩:ByteArray))];simp only [H1,yt (show d<=64 by omega)]
  repeat' (first
   | (refine aj.bind (ih _ _ _ (by omega)) ?_; rintro _ ⟨t,i,h,_,_,rfl⟩; simp only [nv0,nvS,dvI,dvB,dvS,dvL,B5])
   | refine aj.ite (fun _=>?_) (fun _=>?_)
   | (refine aj.bind (bv hl _ _ (by decide) (by decide)) ?_; rintro _ ⟨b,i,h,rfl⟩; simp only [nv0,nvS,dvI,dvB,dvS,dvL,B5])
   | (refine aj.bind (bh hl _ _ (by decide) (by decide)) ?_; rintro _ ⟨b,i,h,_,_,rfl⟩; simp only [nv0,nvS,dvI,dvB,dvS,dvL,B5])
   | (refine aj.bind (dw hl _ _ (by decide) (by decide) 8 (by decide)) ?_; rintro _ ⟨b,i,h,_,rfl⟩; simp only [nv0,nvS,dvI,dvB,dvS,dvL,B5])
   | (simp only [r96,r131,r148,r148b,r136,r146,nv0,nvS,dvI,dvB,dvS,dvL,B5]))
  all_goals (first | exact lfV (by assumption) (by omega) | exact lfW (by assumption) (by omega) (by omega) | exact lf2 (by assumption) (by assumption) (by assumption) (by omega))
theorem Lk {code:aa} (hl:code.length<=1048576) {s:ByteArray} (hs:s≠(⟨#[119,111,114,100]⟩:ByteArray)):∀ (d:Nat) (g:Bool) (i:Nat) (h:Int),d<=64->aj (rn ⟨95,0,0⟩ [.str s,.int (d:Int),.bool g,.sl code,.int (i:Int),.int h]) (DTk code 8 (8*4 ^ d)):=by
 have hE:(⟨#[101]⟩:ByteArray)≠(⟨#[119,111,114,100]⟩:ByteArray):=by decide
 have hW1:∀ g i h,aj (rn ⟨95,0,0⟩ [.str (⟨#[119,111,114,100]⟩:ByteArray),.int 1,.bool g,.sl code,.int ((i:Nat):Int),.int h]) (DTk code 8 4):=fun g i h=>xf hl 1 g i h (by decide)
 intro d;induction d generalizing s with
 | zero =>
  intro g i h hd;rw [e95_0_0];rw [H8 hs,H7 (by decide:((0:Nat):Int)<2)]
  simp only [H1,H2];repeat' (first
   | (refine aj.bind (hW1 _ _ _) ?_; rintro _ ⟨t,i,h,_,_,rfl⟩; simp only [nv0,nvS,dvI,dvB,dvS,dvL,B5])
   | refine aj.ite (fun _=>?_) (fun _=>?_)
   | (refine aj.bind (bv hl _ _ (by decide) (by decide)) ?_; rintro _ ⟨b,i,h,rfl⟩; simp only [nv0,nvS,dvI,dvB,dvS,dvL,B5])
   | (refine aj.bind (bh hl _ _ (by decide) (by decide)) ?_; rintro _ ⟨b,i,h,_,_,rfl⟩; simp only [nv0,nvS,dvI,dvB,dvS,dvL,B5])
   | (refine aj.bind (dw hl _ _ (by decide) (by decide) 8 (by decide)) ?_; rintro _ ⟨b,i,h,_,rfl⟩; simp only [nv0,nvS,dvI,dvB,dvS,dvL,B5])
   | (simp only [r96,r131,r148,r148b,r136,r146,nv0,nvS,dvI,dvB,dvS,dvL,B5]))
  all_goals (first | exact lfV (by assumption) (by decide) | exact lfC (by assumption) (by decide) | exact lf1 (by first | assumption | decide) (by assumption) (by omega))
 | succ d ih =>
  intro g i h hd;have hp:4 ^ (d+1)=4*4 ^ d:=by omega
  have h1:1<=4 ^ d:=Nat.one_le_pow _ _ (by decide)
  rw [e95_0_0];rw [H8 hs];simp only [H2,yt (show d<=64 by omega)]
  repeat' (first
   | (refine aj.bind (hW1 _ _ _) ?_; rintro _ ⟨t,i,h,_,_,rfl⟩; simp only [nv0,nvS,dvI,dvB,dvS,dvL,B5])
   | (refine aj.bind (ih hE _ _ _ (by omega)) ?_; rintro _ ⟨t,i,h,_,_,rfl⟩; simp only [nv0,nvS,dvI,dvB,dvS,dvL,B5])
   | (refine aj.bind (xf hl d _ _ _ (by omega)) ?_; rintro _ ⟨t,i,h,_,_,rfl⟩; simp only [nv0,nvS,dvI,dvB,dvS,dvL,B5])
   | refine aj.ite (fun _=>?_) (fun _=>?_)
   | (refine aj.bind (bv hl _ _ (by decide) (by decide)) ?_; rintro _ ⟨b,i,h,rfl⟩; simp only [nv0,nvS,dvI,dvB,dvS,dvL,B5])
   | (refine aj.bind (bh hl _ _ (by decide) (by decide)) ?_; rintro _ ⟨b,i,h,_,_,rfl⟩; simp only [nv0,nvS,dvI,dvB,dvS,dvL,B5])
   | (refine aj.bind (dw hl _ _ (by decide) (by decide) 8 (by decide)) ?_; rintro _ ⟨b,i,h,_,rfl⟩; simp only [nv0,nvS,dvI,dvB,dvS,dvL,B5])
   | (simp only [r96,r131,r148,r148b,r136,r146,nv0,nvS,dvI,dvB,dvS,dvL,B5]))
  all_goals (first | exact lfV (by assumption) (by omega) | exact lfC (by assumption) (by omega) | exact lf1 (by first | assumption | decide) (by assumption) (by omega) | exact lf2 (by first | assumption | decide) (by assumption) (by assumption) (by omega))
theorem DTk.mono {code:aa} {k m m':Nat} {x:Nat×List D} (h:DTk code k m x) (hm:m<=m'):DTk code k m' x:=by
 obtain ⟨t,i,h',h1,h2,e⟩:=h;exact ⟨t,i,h',h1,G8 h2 hm,e⟩
theorem Qy {code:aa} (hl:code.length<=1048576) (d:Nat) (k:Int) (e:(d:Int)=k) (m:Nat) (hm:4 ^ d<=m) (hd:d<=64) (g:Bool) (i:Nat) (h:Int):aj (rn ⟨95,0,0⟩ [.str (⟨#[119,111,114,100]⟩:ByteArray),.int k,.bool g,.sl code,.int (i:Int),.int h]) (DTk code 8 m):=by
 subst e;exact aj.mono (xf hl d g i h hd) fun x hx=>hx.mono hm
theorem Cf {code:aa} (hl:code.length<=1048576) (d:Nat) (k:Int) (e:(d:Int)=k) (m:Nat) (hm:8*4 ^ d<=m) (hd:d<=64) (g:Bool) (i:Nat) (h:Int):aj (rn ⟨95,0,0⟩ [.str (⟨#[101]⟩:ByteArray),.int k,.bool g,.sl code,.int (i:Int),.int h]) (DTk code 8 m):=by
 subst e;exact aj.mono (Lk hl (by decide) d g i h hd) fun x hx=>hx.mono hm
theorem Xg {code:aa} (hl:code.length<=1048576) (s:ByteArray) (d:Nat) (k:Int) (e:(d:Int)=k) (m:Nat) (hm:8*4 ^ d<=m) (hd:d<=64) (g:Bool) (i:Nat) (h:Int):aj (rn ⟨95,0,0⟩ [.str s,.int k,.bool g,.sl code,.int (i:Int),.int h]) (DTk code 8 m):=by
 subst e;by_cases hs:s=(⟨#[119,111,114,100]⟩:ByteArray)
 · subst hs
   exact aj.mono (xf hl d g i h hd) fun x hx=>hx.mono (by omega)
 · exact aj.mono (Lk hl hs d g i h hd) fun x hx=>hx.mono hm
def DW (code:aa) (m:Nat) (x:Nat×List D):Prop:=∃ t:Tm,∃ i':Nat,∃ h':Int,Wn m t/\x=(0,[.int t.k,.int t.n,.str t.s,.sl code,.int (i':Int),.int h',.sl (t.as.map Tm.row)])
theorem xg {code:aa} (hl:code.length<=1048576) (i:Nat) (h:Int):aj (rn ⟨92,0,0⟩ [.sl code,.int (i:Int),.int h]) (DW code 60):=by
 have key:∀ (n j:Nat) (t:Tm) (i:Nat) (h:Int) (m:Nat),j+n=16->Wn m t->∃ u:Tm,Wn (m+n) u/\rn ⟨92,0,2⟩ [.int (j:Int),.sl code,.int (i:Int),.int h,.int 0,.int 0,.str ⟨#[]⟩,.int t.k,.int t.n,.str t.s,.sl [],.sl (t.as.map Tm.row)]=some (0,[.sl code,.int (i:Int),.int h,.int 0,.int 0,.str ⟨#[]⟩,.int u.k,.int u.n,.str u.s,.sl [],.sl (u.as.map Tm.row)]):=by
  intro n;induction n with
  | zero =>
   intro j t i h m hj ht;rw [e92_0_2,H8 (by omega:¬(j:Int)<16)]
   exact ⟨t,ht,rfl⟩
  | succ n ih =>
   intro j t i h m hj ht;rw [e92_0_2,H7 (by omega:(j:Int)<16)]
   have ew:IntKind.i64.wrap ((j:Int)+1)=((j+1:Nat):Int):=by rw [IntWalk.i64_in _ (by omega)]; omega
   simp only [H1,r136,nv0,nvS,dvI,dvB,dvS,dvL,B5,ew];obtain ⟨u,hu,e⟩:=ih (j+1) (tO (⟨#[103]⟩:ByteArray) t) i h (m+1) (by omega) (ol (by decide) ht)
   exact ⟨u,hu.mono (by omega),e⟩
 rw [e92_0_0];refine aj.bind (bh hl _ _ (by decide) (by decide)) ?_
 rintro _ ⟨b1,i,h,hb0,hb1,rfl⟩
 simp only [nv0,nvS,dvI,dvB,dvS,dvL,B5];refine aj.bind (bv hl _ _ (by decide) (by decide)) ?_
 rintro _ ⟨g,i,h,rfl⟩
 simp only [nv0,nvS,dvI,dvB,dvS,dvL,B5];have e:∃ d:Nat,IntKind.i64.wrap (1+b1)=(d:Int)/\d<=4:=⟨(1+b1).toNat,by rw [IntWalk.i64_in _ (by omega)]; omega,by omega⟩
 obtain ⟨d,e,hd2⟩:=e;rw [e];refine aj.bind (Td hl d g _ _ (by omega)) ?_
 rintro _ ⟨t,i,h,ht,htn,rfl⟩
 have hq:2 ^ (d+1)<=2 ^ 5:=Nat.pow_le_pow_right (by decide) (by omega)
 have hq8:(2:Nat) ^ 5=32:=rfl;have hw:Wn 31 t:=ht.wn (by decide) (by omega)
 have hal:t.as.length<=2:=by
  cases ht with
  | var _=>simp [Tm.as]
  | word _ _=>simp [Tm.as]
  | app _ h _=>exact h
 have hk:-1000<=t.k/\t.k<=1000/\-1000<=t.n/\t.n<=1000/\t.s.size<=1000:=by
  cases ht with
  | var h=>refine ⟨?_,?_,?_,?_,?_⟩ <;> simp [Tm.k,Tm.n,Tm.s]; omega
  | word h0 h1=>exact ⟨by show (-1000:Int)<=3; decide,by show (3:Int)<=1000; decide,by simp only [Tm.n]; omega,by simp only [Tm.n]; omega,by show (⟨#[]⟩:ByteArray).size<=1000; decide⟩
  | app h _ _=>refine ⟨?_,?_,?_,?_,?_⟩ <;> simp [Tm.k,Tm.n,Tm.s]; omega
 obtain ⟨k1,k2,k3,k4,k5⟩:=hk;have hsub:∀ a∈t.as,Wt a:=fun a ha=>hw.w.sub ha
 have hnod:∀ (k n:Int) (s:ByteArray),(Tm.mk k n s t.as).nodes<=31:=fun k n s=>by have:=hw.n; rw [Tm.nodes_eq] at this ⊢; exact this
 simp only [nv0,nvS,dvI,dvB,dvS,dvL,B5];refine aj.bind (bh hl _ _ (by decide) (by decide)) ?_
 rintro _ ⟨c,i,h,hc0,hc1,rfl⟩
 simp only [nv0,nvS,dvI,dvB,dvS,dvL,B5];refine aj.ite (fun _=>?_) (fun _=>?_)
 · refine aj.bind (bh hl _ _ (by decide) (by decide)) ?_
   rintro _ ⟨b,i,h,b0,b1,rfl⟩
   exact aj.ret ⟨.mk b t.n t.s t.as,i,h,⟨mq (by omega) (by omega) k3 k4 k5 (by omega) hsub,G8 (hnod _ _ _) (by decide)⟩,rfl⟩
 refine aj.ite (fun _=>?_) (fun _=>?_)
 · refine aj.bind (zp hl _ _ (by decide) (by decide) (by decide)) ?_
   rintro _ ⟨b,i,h,b0,b1,rfl⟩
   exact aj.ret ⟨.mk t.k b t.s t.as,i,h,⟨mq k1 k2 b0 b1 k5 (by omega) hsub,G8 (hnod _ _ _) (by decide)⟩,rfl⟩
 refine aj.ite (fun _=>?_) (fun _=>?_)
 · refine aj.bind (dw hl _ _ (by decide) (by decide) 8 (by decide)) ?_
   rintro _ ⟨s,i,h,hs,rfl⟩
   exact aj.ret ⟨.mk t.k t.n s t.as,i,h,⟨mq k1 k2 k3 k4 (by omega) (by omega) hsub,G8 (hnod _ _ _) (by decide)⟩,rfl⟩
 refine aj.ite (fun _=>?_) (fun _=>?_)
 · have hb63:F6 (t.as.length+1) M63=true:=nb (by omega)
   simp only [r131,nv0,nvS,dvI,dvB,dvS,dvL,B5,B6,C1,C7,D4,hb63,H1];refine aj.ret ⟨.mk t.k t.n t.s (t.as++[tW 1]),i,h,⟨mq k1 k2 k3 k4 k5 (by simp; omega) (fun a ha=>?_),?_⟩,?_⟩
   · rcases D0.1 ha with ha | ha
     · exact hsub a ha
     · rw [E8.1 ha]; exact (Jk (by decide) (by decide)).w
   · have:=hw.n
     rw [Tm.nodes_eq] at this ⊢;have h1:(tW 1).nodes=1:=by simp [tW,Tm.nodes,Tm.nodesL]
     simp only [Tm.as_mk,D5,C2,D1,List.sum_append,List.sum_cons,List.sum_nil,h1];omega
   · simp only [Tm.k_mk,Tm.s_mk,Tm.as_mk,D5,C2,D1,tW,Tm.row,Tm.rows]; rfl
 refine aj.ite (fun _=>?_) (fun _=>?_)
 · obtain ⟨u,hu,e⟩:=key 16 0 t i h 31 rfl hw
   simp only [C6] at e;simp only [e,nv0,nvS,dvI,dvB,dvS,dvL,B5,E2,H1,H2];exact aj.ret ⟨u,i,h,hu.mono (by decide),rfl⟩
 · exact aj.ret ⟨t,i,h,hw.mono (by decide),rfl⟩
def DGu (code:aa) (x:Nat×List D):Prop:=∃ g:Gu,∃ i':Nat,∃ h':Int,GuW g/\x=(0,[.int g.k,.int g.l.k,.int g.l.n,.str g.l.s,.int g.r.k,.int g.r.n,.str g.r.s,.sl code,.int (i':Int),.int h',.sl (g.l.as.map Tm.row),.sl (g.r.as.map Tm.row)])
theorem ic {code:aa} (hl:code.length<=1048576) (i:Nat) (h:Int):aj (rn ⟨149,0,0⟩ [.sl code,.int (i:Int),.int h]) (DGu code):=by
 rw [e149_0_0];refine aj.bind (bv hl _ _ (by decide) (by decide)) ?_
 rintro _ ⟨g,i,h,rfl⟩
 simp only [nv0,nvS,dvI,dvB,dvS,dvL,B5];refine aj.bind (bh hl _ _ (by decide) (by decide)) ?_
 rintro _ ⟨b,i,h,b0,b1,rfl⟩
 simp only [nv0,nvS,dvI,dvB,dvS,dvL,B5];have ew:IntKind.i64.wrap (1+b)=1+b:=IntWalk.i64_in _ (by omega)
 rw [ew];refine aj.bind (Qy hl 3 _ rfl 64 (by decide) (by decide) _ _ _) ?_
 rintro _ ⟨t,i,h,ht,htn,rfl⟩
 simp only [nv0,nvS,dvI,dvB,dvS,dvL,B5];refine aj.bind (Qy hl 2 _ rfl 64 (by decide) (by decide) _ _ _) ?_
 rintro _ ⟨u,i,h,hu,hun,rfl⟩
 simp only [nv0,nvS,dvI,dvB,dvS,dvL,B5];refine aj.bind (bv hl _ _ (by decide) (by decide)) ?_
 rintro _ ⟨q,i,h,rfl⟩
 simp only [nv0,nvS,dvI,dvB,dvS,dvL,B5];refine aj.ite (fun _=>?_) (fun _=>?_)
 · refine aj.bind (Cf hl 2 _ rfl 128 (by decide) (by decide) _ _ _) ?_
   rintro _ ⟨t',i,h,ht',htn',rfl⟩
   simp only [nv0,nvS,dvI,dvB,dvS,dvL,B5];refine aj.bind (Cf hl 2 _ rfl 128 (by decide) (by decide) _ _ _) ?_
   rintro _ ⟨u',i,h,hu',hun',rfl⟩
   exact aj.ret ⟨⟨1+b,t',u'⟩,i,h,⟨⟨by show 0<=1+b; omega,by show 1+b<=5; omega⟩,ht'.wn (by decide) (by show t'.nodes<=_; omega),hu'.wn (by decide) (by show u'.nodes<=_; omega)⟩,rfl⟩
 · exact aj.ret ⟨⟨1+b,t,u⟩,i,h,⟨⟨by show 0<=1+b; omega,by show 1+b<=5; omega⟩,ht.wn (by decide) (by show t.nodes<=_; omega),hu.wn (by decide) (by show u.nodes<=_; omega)⟩,rfl⟩
theorem vV (s:ByteArray):rn ⟨96,0,0⟩ [.str s]=some (0,[.int (tV s).k,.int (tV s).n,.str (tV s).s,.sl ((tV s).as.map Tm.row)]):=r96 s
theorem vC (s:ByteArray):rn ⟨148,1,0⟩ [.str s,.sl []]=some (0,[.int (tC s).k,.int (tC s).n,.str (tC s).s,.sl ((tC s).as.map Tm.row)]):=r148b s []
theorem vW (n:Int):rn ⟨131,0,0⟩ [.int n]=some (0,[.int (tW n).k,.int (tW n).n,.str (tW n).s,.sl ((tW n).as.map Tm.row)]):=r131 n
theorem vO (s:ByteArray) (t:Tm):rn ⟨136,0,0⟩ [.str s,.int t.k,.int t.n,.str t.s,.sl (t.as.map Tm.row)]=some (0,[.int (tO s t).k,.int (tO s t).n,.str (tO s t).s,.sl ((tO s t).as.map Tm.row)]):=r136 s t
theorem vP (s:ByteArray) (t u:Tm):rn ⟨146,0,0⟩ [.str s,.int t.k,.int t.n,.str t.s,.sl (t.as.map Tm.row),.int u.k,.int u.n,.str u.s,.sl (u.as.map Tm.row)]=some (0,[.int (tP s t u).k,.int (tP s t u).n,.str (tP s t u).s,.sl ((tP s t u).as.map Tm.row)]):=r146 s t u
def DRu (code:aa) (s:ByteArray) (x:Nat×List D):Prop:=∃ r:RuM,∃ i':Nat,∃ h':Int,r.n=s/\RuW r/\x=(0,[.str r.n,.int r.l.k,.int r.l.n,.str r.l.s,.int (r.r).k,.int (r.r).n,.str (r.r).s,.sl ((r.r).as.map Tm.row),.sl code,.int (i':Int),.int h',.sl (r.l.as.map Tm.row),.sl (r.g.map Gu.row)])
theorem Tf {code:aa} (hl:code.length<=1048576) (s:ByteArray) (hs:s.size<=1000) (i:Nat) (h:Int):aj (rn ⟨87,0,0⟩ [.str s,.sl code,.int (i:Int),.int h]) (DRu code s):=by
 have W:∀ {m:Nat} {t:Tm},Wn m t->m<=3000->Wn 3000 t:=fun h hm=>h.mono hm
 have x1:Wn 1 (tV (⟨#[88]⟩:ByteArray)):=Qq (by decide)
 have n1:Wn 1 (tV (⟨#[78]⟩:ByteArray)):=Qq (by decide)
 have y1:Wn 1 (tV (⟨#[89]⟩:ByteArray)):=Qq (by decide)
 have m1:Wn 1 (tV (⟨#[77]⟩:ByteArray)):=Qq (by decide)
 have a1:Wn 1 (tC (⟨#[97]⟩:ByteArray)):=Sp (by decide)
 have b1:Wn 1 (tC (⟨#[98]⟩:ByteArray)):=Sp (by decide)
 rw [e87_0_0];simp only [vV,nv0,nvS,dvI,dvB,dvS,dvL,B5];refine aj.bind (bh hl _ _ (by decide) (by decide)) ?_
 rintro _ ⟨b,i,h,b0,b1',rfl⟩
 simp only [vV,vO,vP,vW,vC,nv0,nvS,dvI,dvB,dvS,dvL,B5];refine aj.ite (fun _=>?_) (fun _=>?_)
 · skip
   refine aj.bind (bv hl _ _ (by decide) (by decide)) ?_
   rintro _ ⟨q,i,h,rfl⟩
   simp only [nv0,nvS,dvI,dvB,dvS,dvL,B5];refine aj.ite (fun _=>?_) (fun _=>?_)
   · refine aj.bind (ic hl _ _) ?_
     rintro _ ⟨g,i,h,hg,rfl⟩
     have hb63:F6 1 M63=true:=by decide
     simp only [nv0,nvS,dvI,dvB,dvS,dvL,B5,C1,C7,D4,hb63,H1];exact aj.ret ⟨⟨s,tO (⟨#[103]⟩:ByteArray) (tV (⟨#[88]⟩:ByteArray)),tV (⟨#[88]⟩:ByteArray),[g]⟩,i,h,rfl,⟨hs,W (ol (by decide) x1) (by decide),W x1 (by decide),by simp,by simp [hg]⟩,rfl⟩
   · exact aj.ret ⟨⟨s,tO (⟨#[103]⟩:ByteArray) (tV (⟨#[88]⟩:ByteArray)),tV (⟨#[88]⟩:ByteArray),[]⟩,i,h,rfl,⟨hs,W (ol (by decide) x1) (by decide),W x1 (by decide),by simp,by simp⟩,rfl⟩
 refine aj.ite (fun _=>?_) (fun _=>?_)
 · skip
   have hp:=Hu hl i h [tV (⟨#[88]⟩:ByteArray),tV (⟨#[89]⟩:ByteArray),tC (⟨#[97]⟩:ByteArray)] (by decide) (by decide)
   simp only [C2,D1,Tm.row_eq] at hp;refine aj.bind hp ?_
   rintro _ ⟨t,i,h,ht,rfl⟩
   have hw:Wn 3000 t:=by
    simp only [E0,Q1,or_false] at ht;rcases ht with rfl | rfl | rfl
    · exact W x1 (by decide)
    · exact W y1 (by decide)
    · exact W a1 (by decide)
   simp only [nv0,nvS,dvI,dvB,dvS,dvL,B5];refine aj.bind (bv hl _ _ (by decide) (by decide)) ?_
   rintro _ ⟨q,i,h,rfl⟩
   simp only [nv0,nvS,dvI,dvB,dvS,dvL,B5];refine aj.ite (fun _=>?_) (fun _=>?_)
   · refine aj.bind (ic hl _ _) ?_
     rintro _ ⟨g,i,h,hg,rfl⟩
     have hb63:F6 1 M63=true:=by decide
     simp only [nv0,nvS,dvI,dvB,dvS,dvL,B5,C1,C7,D4,hb63,H1];exact aj.ret ⟨⟨s,tP (⟨#[102]⟩:ByteArray) (tV (⟨#[88]⟩:ByteArray)) (tV (⟨#[89]⟩:ByteArray)),t,[g]⟩,i,h,rfl,⟨hs,W (mw (by decide) x1 y1) (by decide),hw,by simp,by simp [hg]⟩,rfl⟩
   · exact aj.ret ⟨⟨s,tP (⟨#[102]⟩:ByteArray) (tV (⟨#[88]⟩:ByteArray)) (tV (⟨#[89]⟩:ByteArray)),t,[]⟩,i,h,rfl,⟨hs,W (mw (by decide) x1 y1) (by decide),hw,by simp,by simp⟩,rfl⟩
 refine aj.ite (fun _=>?_) (fun _=>?_)
 · skip
   have hg0:GuW ⟨3,tW 0,tV (⟨#[78]⟩:ByteArray)⟩:=⟨by show (0:Int)<=3/\(3:Int)<=5; decide,W (Jk (by decide) (by decide)) (by decide),W n1 (by decide)⟩
   refine aj.bind (bv hl _ _ (by decide) (by decide)) ?_
   rintro _ ⟨q,i,h,rfl⟩
   simp only [nv0,nvS,dvI,dvB,dvS,dvL,B5];refine aj.ite (fun _=>?_) (fun _=>?_)
   · refine aj.bind (ic hl _ _) ?_
     rintro _ ⟨g,i,h,hg,rfl⟩
     have hb63:F6 (1+1) M63=true:=by decide
     simp only [nv0,nvS,dvI,dvB,dvS,dvL,B5,C1,C7,D4,hb63,H1];exact aj.ret ⟨⟨s,tP (⟨#[104]⟩:ByteArray) (tV (⟨#[88]⟩:ByteArray)) (tV (⟨#[78]⟩:ByteArray)),tP (⟨#[104]⟩:ByteArray) (tV (⟨#[88]⟩:ByteArray)) (tP (⟨#[109,105,110,117,115]⟩:ByteArray) (tV (⟨#[78]⟩:ByteArray)) (tW 1)),[⟨3,tW 0,tV (⟨#[78]⟩:ByteArray)⟩,g]⟩,i,h,rfl,⟨hs,W (mw (by decide) x1 n1) (by decide),W (mw (by decide) x1 (mw (by decide) n1 (Jk (by decide) (by decide)))) (by decide),by simp,by simp [hg,hg0]⟩,rfl⟩
   · exact aj.ret ⟨⟨s,tP (⟨#[104]⟩:ByteArray) (tV (⟨#[88]⟩:ByteArray)) (tV (⟨#[78]⟩:ByteArray)),tP (⟨#[104]⟩:ByteArray) (tV (⟨#[88]⟩:ByteArray)) (tP (⟨#[109,105,110,117,115]⟩:ByteArray) (tV (⟨#[78]⟩:ByteArray)) (tW 1)),[⟨3,tW 0,tV (⟨#[78]⟩:ByteArray)⟩]⟩,i,h,rfl,⟨hs,W (mw (by decide) x1 n1) (by decide),W (mw (by decide) x1 (mw (by decide) n1 (Jk (by decide) (by decide)))) (by decide),by simp,by simp [hg0]⟩,rfl⟩
 refine aj.ite (fun _=>?_) (fun _=>?_)
 · skip
   refine aj.bind (bv hl _ _ (by decide) (by decide)) ?_
   rintro _ ⟨q,i,h,rfl⟩
   simp only [nv0,nvS,dvI,dvB,dvS,dvL,B5];refine aj.ite (fun _=>?_) (fun _=>?_)
   · refine aj.bind (ic hl _ _) ?_
     rintro _ ⟨g,i,h,hg,rfl⟩
     have hb63:F6 1 M63=true:=by decide
     simp only [nv0,nvS,dvI,dvB,dvS,dvL,B5,C1,C7,D4,hb63,H1];exact aj.ret ⟨⟨s,tP (⟨#[104]⟩:ByteArray) (tV (⟨#[88]⟩:ByteArray)) (tW 0),tV (⟨#[88]⟩:ByteArray),[g]⟩,i,h,rfl,⟨hs,W (mw (by decide) x1 (Jk (by decide) (by decide))) (by decide),W x1 (by decide),by simp,by simp [hg]⟩,rfl⟩
   · exact aj.ret ⟨⟨s,tP (⟨#[104]⟩:ByteArray) (tV (⟨#[88]⟩:ByteArray)) (tW 0),tV (⟨#[88]⟩:ByteArray),[]⟩,i,h,rfl,⟨hs,W (mw (by decide) x1 (Jk (by decide) (by decide))) (by decide),W x1 (by decide),by simp,by simp⟩,rfl⟩
 refine aj.ite (fun _=>?_) (fun _=>?_)
 · skip
   refine aj.bind (dw hl _ _ (by decide) (by decide) 8 (by decide)) ?_
   rintro _ ⟨z,i,h,hz,rfl⟩
   simp only [vV,vO,vP,vW,vC,nv0,nvS,dvI,dvB,dvS,dvL,B5];refine aj.bind (bv hl _ _ (by decide) (by decide)) ?_
   rintro _ ⟨q,i,h,rfl⟩
   simp only [nv0,nvS,dvI,dvB,dvS,dvL,B5];refine aj.ite (fun _=>?_) (fun _=>?_)
   · refine aj.bind (ic hl _ _) ?_
     rintro _ ⟨g,i,h,hg,rfl⟩
     have hb63:F6 1 M63=true:=by decide
     simp only [nv0,nvS,dvI,dvB,dvS,dvL,B5,C1,C7,D4,hb63,H1];exact aj.ret ⟨⟨s,tP (⟨#[102]⟩:ByteArray) (tO (⟨#[110,117,109]⟩:ByteArray) (tV (⟨#[78]⟩:ByteArray))) (tO (⟨#[110,117,109]⟩:ByteArray) (tV (⟨#[77]⟩:ByteArray))),tO (⟨#[110,117,109]⟩:ByteArray) (tP z (tV (⟨#[78]⟩:ByteArray)) (tV (⟨#[77]⟩:ByteArray))),[g]⟩,i,h,rfl,⟨hs,W (mw (by decide) (ol (by decide) n1) (ol (by decide) m1)) (by decide),W (ol (by decide) (mw (by omega) n1 m1)) (by decide),by simp,by simp [hg]⟩,rfl⟩
   · exact aj.ret ⟨⟨s,tP (⟨#[102]⟩:ByteArray) (tO (⟨#[110,117,109]⟩:ByteArray) (tV (⟨#[78]⟩:ByteArray))) (tO (⟨#[110,117,109]⟩:ByteArray) (tV (⟨#[77]⟩:ByteArray))),tO (⟨#[110,117,109]⟩:ByteArray) (tP z (tV (⟨#[78]⟩:ByteArray)) (tV (⟨#[77]⟩:ByteArray))),[]⟩,i,h,rfl,⟨hs,W (mw (by decide) (ol (by decide) n1) (ol (by decide) m1)) (by decide),W (ol (by decide) (mw (by omega) n1 m1)) (by decide),by simp,by simp⟩,rfl⟩
 refine aj.ite (fun _=>?_) (fun _=>?_)
 · skip
   refine aj.bind (bv hl _ _ (by decide) (by decide)) ?_
   rintro _ ⟨q,i,h,rfl⟩
   simp only [nv0,nvS,dvI,dvB,dvS,dvL,B5];refine aj.ite (fun _=>?_) (fun _=>?_)
   · refine aj.bind (ic hl _ _) ?_
     rintro _ ⟨g,i,h,hg,rfl⟩
     have hb63:F6 1 M63=true:=by decide
     simp only [nv0,nvS,dvI,dvB,dvS,dvL,B5,C1,C7,D4,hb63,H1];exact aj.ret ⟨⟨s,tO (⟨#[103]⟩:ByteArray) (tO (⟨#[110,117,109]⟩:ByteArray) (tV (⟨#[78]⟩:ByteArray))),tP (⟨#[104]⟩:ByteArray) (tC (⟨#[98]⟩:ByteArray)) (tV (⟨#[78]⟩:ByteArray)),[g]⟩,i,h,rfl,⟨hs,W (ol (by decide) (ol (by decide) n1)) (by decide),W (mw (by decide) b1 n1) (by decide),by simp,by simp [hg]⟩,rfl⟩
   · exact aj.ret ⟨⟨s,tO (⟨#[103]⟩:ByteArray) (tO (⟨#[110,117,109]⟩:ByteArray) (tV (⟨#[78]⟩:ByteArray))),tP (⟨#[104]⟩:ByteArray) (tC (⟨#[98]⟩:ByteArray)) (tV (⟨#[78]⟩:ByteArray)),[]⟩,i,h,rfl,⟨hs,W (ol (by decide) (ol (by decide) n1)) (by decide),W (mw (by decide) b1 n1) (by decide),by simp,by simp⟩,rfl⟩
 refine aj.ite (fun _=>?_) (fun _=>?_)
 · skip
   have hp:=Hu hl i h [tC (⟨#[98]⟩:ByteArray),tO (⟨#[110,117,109]⟩:ByteArray) (tW 2)] (by decide) (by decide)
   simp only [C2,D1,Tm.row_eq] at hp;refine aj.bind hp ?_
   rintro _ ⟨t,i,h,ht,rfl⟩
   have hw:Wn 3000 t:=by
    simp only [E0,Q1,or_false] at ht;rcases ht with rfl | rfl
    · exact W b1 (by decide)
    · exact W (ol (by decide) (Jk (by decide) (by decide))) (by decide)
   simp only [nv0,nvS,dvI,dvB,dvS,dvL,B5];refine aj.bind (bv hl _ _ (by decide) (by decide)) ?_
   rintro _ ⟨q,i,h,rfl⟩
   simp only [nv0,nvS,dvI,dvB,dvS,dvL,B5];refine aj.ite (fun _=>?_) (fun _=>?_)
   · refine aj.bind (ic hl _ _) ?_
     rintro _ ⟨g,i,h,hg,rfl⟩
     have hb63:F6 1 M63=true:=by decide
     simp only [nv0,nvS,dvI,dvB,dvS,dvL,B5,C1,C7,D4,hb63,H1];exact aj.ret ⟨⟨s,tC (⟨#[97]⟩:ByteArray),t,[g]⟩,i,h,rfl,⟨hs,W a1 (by decide),hw,by simp,by simp [hg]⟩,rfl⟩
   · exact aj.ret ⟨⟨s,tC (⟨#[97]⟩:ByteArray),t,[]⟩,i,h,rfl,⟨hs,W a1 (by decide),hw,by simp,by simp⟩,rfl⟩
 refine aj.ite (fun _=>?_) (fun _=>?_)
 · skip
   refine aj.bind (bv hl _ _ (by decide) (by decide)) ?_
   rintro _ ⟨q,i,h,rfl⟩
   simp only [nv0,nvS,dvI,dvB,dvS,dvL,B5];refine aj.ite (fun _=>?_) (fun _=>?_)
   · refine aj.bind (ic hl _ _) ?_
     rintro _ ⟨g,i,h,hg,rfl⟩
     have hb63:F6 1 M63=true:=by decide
     simp only [nv0,nvS,dvI,dvB,dvS,dvL,B5,C1,C7,D4,hb63,H1];exact aj.ret ⟨⟨s,tP (⟨#[102]⟩:ByteArray) (tV (⟨#[88]⟩:ByteArray)) (tV (⟨#[88]⟩:ByteArray)),tO (⟨#[103]⟩:ByteArray) (tV (⟨#[88]⟩:ByteArray)),[g]⟩,i,h,rfl,⟨hs,W (mw (by decide) x1 x1) (by decide),W (ol (by decide) x1) (by decide),by simp,by simp [hg]⟩,rfl⟩
   · exact aj.ret ⟨⟨s,tP (⟨#[102]⟩:ByteArray) (tV (⟨#[88]⟩:ByteArray)) (tV (⟨#[88]⟩:ByteArray)),tO (⟨#[103]⟩:ByteArray) (tV (⟨#[88]⟩:ByteArray)),[]⟩,i,h,rfl,⟨hs,W (mw (by decide) x1 x1) (by decide),W (ol (by decide) x1) (by decide),by simp,by simp⟩,rfl⟩
 refine aj.bind (Cf hl 3 _ rfl 512 (by decide) (by decide) _ _ _) ?_
 rintro _ ⟨t,i,h,ht,htn,rfl⟩
 simp only [nv0,nvS,dvI,dvB,dvS,dvL,B5];refine aj.bind (Cf hl 2 _ rfl 128 (by decide) (by decide) _ _ _) ?_
 rintro _ ⟨u,i,h,hu,hun,rfl⟩
 simp only [nv0,nvS,dvI,dvB,dvS,dvL,B5];refine aj.bind (bv hl _ _ (by decide) (by decide)) ?_
 rintro _ ⟨q,i,h,rfl⟩
 simp only [nv0,nvS,dvI,dvB,dvS,dvL,B5];refine aj.ite (fun _=>?_) (fun _=>?_)
 · refine aj.bind (ic hl _ _) ?_
   rintro _ ⟨g,i,h,hg,rfl⟩
   have hb63:F6 1 M63=true:=by decide
   simp only [nv0,nvS,dvI,dvB,dvS,dvL,B5,C1,C7,D4,hb63,H1];exact aj.ret ⟨⟨s,t,u,[g]⟩,i,h,rfl,⟨hs,ht.wn (by decide) (by show t.nodes<=_; omega),hu.wn (by decide) (by show u.nodes<=_; omega),by simp,by simp [hg]⟩,rfl⟩
 · exact aj.ret ⟨⟨s,t,u,[]⟩,i,h,rfl,⟨hs,ht.wn (by decide) (by show t.nodes<=_; omega),hu.wn (by decide) (by show u.nodes<=_; omega),by simp,by simp⟩,rfl⟩
theorem Vn (n:Nat) (hn:n<10):∃ s:ByteArray,s.size<=2/\rn ⟨88,0,0⟩ [.int (n:Int)]=some (0,[.str s]):=by
 rw [e88_0_0];by_cases h0:n=0
 · subst h0; exact ⟨_,by decide,rfl⟩
 have e0:¬(n:Int)=0:=by omega
 rw [H8 e0,H8 (by omega:¬(n:Int)<0)]
 simp only [H2];have hm:Int.tmod (n:Int) 10=(n:Int):=Int.tmod_eq_of_lt (by omega) (by omega)
 have hd:Int.tdiv (n:Int) 10=0:=Int.tdiv_eq_zero_of_lt (by omega) (by omega)
 have hl:∀ s:ByteArray,rn ⟨88,0,1⟩ [.int 0,.bool false,.str s]=some (0,[.bool false,.str s]):=fun s=>by
  rw [e88_0_1]; rfl
 have h1:∃ s:ByteArray,s.size<=2/\rn ⟨88,0,1⟩ [.int (n:Int),.bool false,.str ⟨#[]⟩]=some (0,[.bool false,.str s]):=by
  rw [e88_0_1];rw [H8 e0,hm,hd,H8 (by omega:¬(n:Int)<0)]
  have hw:IntKind.i64.wrap 0=0:=rfl;simp only [Bool.not_false,H1,H2,show decide ((10:Int)=0)=false from rfl,hw,hl]
  refine ⟨_,?_,by rw [H7 (by show _<=js; unfold js; simp [iq,ByteArray.size])]; rfl⟩
  rw [ByteArray.size_append]; simp [iq,ByteArray.size]
 obtain ⟨s,h2,e⟩:=h1;exact ⟨s,h2,by rw [e]; rfl⟩
def DDf (code:aa) (x:Nat×List D):Prop:=∃ d:DfM,∃ i':Nat,∃ h':Int,DfW d/\x=(0,[.sl code,.int (i':Int),.int h',.sl (d.so.map ai),.sl (d.op.map OpM.row),.sl (d.ru.map RuM.row),.sl (d.st.map StM.row)])
theorem Eh {code:aa} (hl:code.length<=1048576) (i:Nat) (h:Int):aj (rn ⟨39,0,0⟩ [.sl code,.int (i:Int),.int h]) (DDf code):=by
 have hso:eh.length<=10:=by decide
 have hop:dc.length<=10:=by decide
 have hsig:nv dc:=⟨by decide,fun o ho=>by have:=(io o ho).2.1; show o.a.length<=_; omega⟩
 have k1:∀ (m j:Nat) (b:Int),b<=5->(j:Int)+m=b->∀ (i:Nat) (h:Int) (R:List RuM),R.length<=j->(∀ r∈R,RuW r)->∃ R':List RuM,∃ i':Nat,∃ h':Int,R'.length<=5/\(∀ r∈R',RuW r) ∧
  rn ⟨39,0,1⟩ [.int b,.int (j:Int),.sl code,.int (i:Int),.int h,.sl [],.sl [],.sl [],.sl [],.sl (eh.map ai),.sl (dc.map OpM.row),.sl (R.map RuM.row),.sl []]=some (0,[.sl code,.int (i':Int),.int h',.sl [],.sl [],.sl [],.sl [],.sl (eh.map ai),.sl (dc.map OpM.row),.sl (R'.map RuM.row),.sl []]):=by
  intro m;induction m with
  | zero =>
   intro j b hb hj i h R hR hRa;rw [e39_0_1,H8 (by omega:¬(j:Int)<b)]
   exact ⟨R,i,h,by omega,hRa,rfl⟩
  | succ m ih =>
   intro j b hb hj i h R hR hRa;rw [e39_0_1,H7 (by omega:(j:Int)<b)]
   obtain ⟨s,hs,e1⟩:=Vn j (by omega)
   have hsz:((⟨#[114]⟩:ByteArray)++s).size<=1000:=by rw [ByteArray.size_append]; show 1+s.size<=1000; omega
   have hi:decide ((⟨#[114]⟩:ByteArray).size+s.size<=js)=true:=H7 (by show 1+s.size<=js; unfold js; omega)
   obtain ⟨_,e2,r,i',h',hn,hr,rfl⟩:=Tf hl ((⟨#[114]⟩:ByteArray)++s) hsz i h;have e3:=r89 (eh.map ai) dc hsig r hr.b;have hb63:F6 (R.length+1) M63=true:=nb (by omega)
   have ew:IntKind.i64.wrap ((j:Int)+1)=((j+1:Nat):Int):=by rw [IntWalk.i64_in _ (by omega)]; omega
   simp only [H1,e1,nv0,nvS,dvI,dvB,dvS,dvL,B5,hi,e2,e3,B6,C1,C7,D4,hb63,ew];cases jf dc r with
   | true =>
    obtain ⟨R',i2,h2,q1,q2,q3⟩:=ih (j+1) b hb (by omega) i' h' (R++[r]) (by simp; omega) (fun x hx=>by
     rcases D0.1 hx with hx | hx
     · exact hRa x hx
     · rw [E8.1 hx]; exact hr)
    simp only [D5,C2,D1,RuM.row] at q3;exact ⟨R',i2,h2,q1,q2,q3⟩
   | false =>
    exact ih (j+1) b hb (by omega) i' h' R (by omega) hRa
 have k2:∀ (R:List RuM),R.length<=5->(∀ r∈R,RuW r)->∀ (m j:Nat) (b:Int),b<=5->(j:Int)+m=b->∀ (i:Nat) (h:Int) (S:List StM),S.length<=j->∃ S':List StM,∃ i':Nat,∃ h':Int,S'.length<=5 ∧
  rn ⟨39,0,3⟩ [.int b,.int (j:Int),.sl code,.int (i:Int),.int h,.sl [],.sl [],.sl [],.sl [],.sl (eh.map ai),.sl (dc.map OpM.row),.sl (R.map RuM.row),.sl (S.map StM.row)]=some (0,[.sl code,.int (i':Int),.int h',.sl [],.sl [],.sl [],.sl [],.sl (eh.map ai),.sl (dc.map OpM.row),.sl (R.map RuM.row),.sl (S'.map StM.row)]):=by
  intro R hR hRa m;induction m with
  | zero =>
   intro j b hb hj i h S hS;rw [e39_0_3,H8 (by omega:¬(j:Int)<b)]
   exact ⟨S,i,h,by omega,rfl⟩
  | succ m ih =>
   intro j b hb hj i h S hS;rw [e39_0_3,H7 (by omega:(j:Int)<b)]
   simp only [H1];obtain ⟨_,e1,s,i1,h1,hs,rfl⟩:=dw hl i h (l:=[[.str ⟨#[102]⟩],[.str ⟨#[102]⟩],[.str ⟨#[103]⟩],[.str ⟨#[104]⟩],[.str ⟨#[116,111,112]⟩]]) (by decide) (by decide) 8 (by decide)
   obtain ⟨_,e2,n,i2,h2,n0,n1,rfl⟩:=bh hl i1 h1 (n:=2) (by decide) (by decide)
   have hdf:DfW ⟨eh,dc,R,S++[⟨s,n⟩]⟩:=⟨hso,jp,hop,io,by show R.length<=10; omega,hRa,by show (S++[_]).length<=10; simp; omega⟩
   have e3:=r58 _ hdf.b;have hb63:F6 (S.length+1) M63=true:=nb (by omega)
   have ew:IntKind.i64.wrap ((j:Int)+1)=((j+1:Nat):Int):=by rw [IntWalk.i64_in _ (by omega)]; omega
   simp only [D5,C2,D1,StM.row] at e3;simp only [e1,e2,nv0,nvS,dvI,dvB,dvS,dvL,B5,e3,B6,List.length_append,C1,C7,D4,hb63,ew,H1];cases DfM.valid ⟨eh,dc,R,S++[⟨s,n⟩]⟩ with
   | true =>
    obtain ⟨S',i3,h3,q1,q2⟩:=ih (j+1) b hb (by omega) i2 h2 (S++[⟨s,n⟩]) (by simp; omega)
    simp only [D5,C2,D1,StM.row] at q2;exact ⟨S',i3,h3,q1,q2⟩
   | false =>
    have ew2:IntKind.i64.wrap (((S.length+1:Nat):Int)-1)=(S.length:Int):=by rw [IntWalk.i64_in _ (by omega)]; omega
    have ed:(decide ((0:Int)<=(S.length:Int))&&decide ((S.length:Int)<=((S.length+1:Nat):Int)))=true:=by simp; omega
    have etk:(S.map StM.row++[[D.str s,.int n]]).take (O2 (S.length:Int))=S.map StM.row:=by
     have e:S.length=(S.map StM.row).length:=(B6 ..).symm;rw [B8,e,List.take_left]
    simp only [Bool.not_false,H1,ew2,ed,etk];exact ih (j+1) b hb (by omega) i2 h2 S (by omega)
 have hbase:rn ⟨86,0,0⟩ []=some (0,[.sl (eh.map ai),.sl (dc.map OpM.row)]):=by rw [e86_0_0]; rfl
 rw [e39_0_0];simp only [hbase,nv0,nvS,dvI,dvB,dvS,dvL,B5];refine aj.bind (bh hl _ _ (by decide) (by decide)) ?_
 rintro _ ⟨b,i,h,b0,b1,rfl⟩
 simp only [nv0,nvS,dvI,dvB,dvS,dvL,B5];have ew:IntKind.i64.wrap (1+b)=1+b:=IntWalk.i64_in _ (by omega)
 obtain ⟨R,i1,h1,q1,q2,q3⟩:=k1 (1+b).toNat 0 (1+b) (by omega) (by omega) i h [] (F7 _) (by simp)
 simp only [C6,D1] at q3;simp only [ew,q3,nv0,nvS,dvI,dvB,dvS,dvL,B5,E2,H1,H2];refine aj.bind (bh hl _ _ (by decide) (by decide)) ?_
 rintro _ ⟨c,i,h,c0,c1,rfl⟩
 simp only [nv0,nvS,dvI,dvB,dvS,dvL,B5];obtain ⟨S,i2,h2,p1,p2⟩:=k2 R q1 q2 c.toNat 0 c (by omega) (by omega) i h [] (F7 _)
 simp only [C6,D1] at p2;simp only [p2,nv0,nvS,dvI,dvB,dvS,dvL,B5,E2,H1,H2];exact aj.ret ⟨⟨eh,dc,R,S⟩,i2,h2,⟨hso,jp,hop,io,by show R.length<=10; omega,q2,by show S.length<=10; omega⟩,rfl⟩
theorem Nd (k:Nat) (l:List ByteArray):(((l.map ai).take k).drop (O2 0))=(l.take k).map ai:=by
 show ((l.map ai).take k).drop 0=_
 rw [List.drop_zero,List.map_take]
def eL:List ByteArray:=[⟨#[101]⟩,⟨#[101]⟩,⟨#[101]⟩,⟨#[101]⟩]
theorem Tg:([[.str (⟨#[101]⟩:ByteArray)],[.str (⟨#[101]⟩:ByteArray)],[.str (⟨#[101]⟩:ByteArray)],[.str (⟨#[101]⟩:ByteArray)]]:aa)=eL.map ai:=rfl
theorem Qz {code:aa} (hl:code.length<=1048576) (i:Nat) (h:Int):aj (rn ⟨91,0,0⟩ [.sl code,.int (i:Int),.int h]) fun x=>∃ so:List ByteArray,∃ op:List OpM,∃ i':Nat,∃ h':Int,so.length<=10/\(∀ x∈so,x.size<=1000)/\op.length<=10/\(∀ o∈op,o.n.size<=1000/\o.a.length<=10/\(∀ x∈o.a,x.size<=1000)/\o.r.size<=1000)/\x=(0,[.sl code,.int (i':Int),.int h',.sl (so.map ai),.sl (op.map OpM.row)]):=by
 have hso:eh.length<=10:=by decide
 have hop:dc.length<=10:=by decide
 have hbase:rn ⟨86,0,0⟩ []=some (0,[.sl (eh.map ai),.sl (dc.map OpM.row)]):=by rw [e86_0_0]; rfl
 rw [e91_0_0];simp only [hbase,nv0,nvS,dvI,dvB,dvS,dvL,B5];refine aj.bind (bh hl _ _ (by decide) (by decide)) ?_
 rintro _ ⟨b,i,h,b0,b1,rfl⟩
 simp only [nv0,nvS,dvI,dvB,dvS,dvL,B5];refine aj.ite (fun _=>?_) (fun _=>?_)
 · refine aj.bind (dw hl _ _ (by decide) (by decide) 8 (by decide)) ?_
   rintro _ ⟨s,i,h,hs,rfl⟩
   have hb63:F6 (eh.length+1) M63=true:=nb (by omega)
   simp only [nv0,nvS,dvI,dvB,dvS,dvL,B5,B6,C1,C7,D4,hb63,H1];refine aj.ret ⟨eh++[s],dc,i,h,by simp [eh],fun x hx=>?_,hop,io,by rw [D5]; rfl⟩
   rcases D0.1 hx with hx | hx
   · exact jp x hx
   · rw [E8.1 hx]; omega
 refine aj.ite (fun _=>?_) (fun _=>?_)
 · refine aj.bind (dw hl _ _ (by decide) (by decide) 8 (by decide)) ?_
   rintro _ ⟨s,i,h,hs,rfl⟩
   simp only [nv0,nvS,dvI,dvB,dvS,dvL,B5];refine aj.bind (bh hl _ _ (by decide) (by decide)) ?_
   rintro _ ⟨c,i,h,c0,c1,rfl⟩
   simp only [nv0,nvS,dvI,dvB,dvS,dvL,B5];obtain ⟨k,rfl⟩:=Int.eq_ofNat_of_zero_le c0;have hk:k<=4:=by omega
   have ed:(decide ((0:Int)<=0)&&(decide ((0:Int)<=(k:Int))&&decide ((k:Int)<=(([[.str (⟨#[101]⟩:ByteArray)],[.str (⟨#[101]⟩:ByteArray)],[.str (⟨#[101]⟩:ByteArray)],[.str (⟨#[101]⟩:ByteArray)]]:aa).length:Int))))=true:=by
    simp; omega
   rw [ed];simp only [H1];refine aj.bind (dw hl _ _ (by decide) (by decide) 8 (by decide)) ?_
   rintro _ ⟨z,i,h,hz,rfl⟩
   have hb63:F6 (dc.length+1) M63=true:=nb (by omega)
   simp only [nv0,nvS,dvI,dvB,dvS,dvL,B5,B6,C1,C7,D4,hb63,H1,Tg,B8,Nd];refine aj.ret ⟨eh,dc++[⟨s,eL.take k,z⟩],i,h,hso,jp,by simp [dc],fun o ho=>?_,by rw [D5]; rfl⟩
   rcases D0.1 ho with ho | ho
   · exact io o ho
   · rw [E8.1 ho]
     refine ⟨by show s.size<=1000; omega,by show (eL.take k).length<=10; rw [List.length_take]; omega,fun x hx=>?_,by show z.size<=1000; omega⟩
     have hx':x∈eL:=List.mem_of_mem_take hx;have:=E4.1 (show eL.all (fun x=>decide (x.size<=1000))=true from by decide) x hx'
     simpa using this
 refine aj.ite (fun _=>?_) (fun _=>?_)
 · have e:over (O2 0) [over 1 [D.sl [[D.str ⟨#[122,122]⟩]]] (rowAt (dc.map OpM.row) (O2 0))] (dc.map OpM.row)=((⟨⟨#[97]⟩,[⟨#[122,122]⟩],⟨#[101]⟩⟩:OpM)::dc.drop 1).map OpM.row:=rfl
   have ei:inb 0 (dc.map OpM.row).length=true:=rfl;rw [e,ei];simp only [H1];refine aj.ret ⟨eh,_,i,h,hso,jp,by decide,fun o ho=>?_,rfl⟩
   rcases E0.1 ho with rfl | ho
   · exact Qr (by decide)
   · exact io o (List.mem_of_mem_drop ho)
 · exact aj.ret ⟨eh,dc,i,h,hso,jp,hop,io,rfl⟩
theorem Hv {code:aa} (hl:code.length<=1048576) (i:Nat) (h:Int):aj (rn ⟨41,0,0⟩ [.sl code,.int (i:Int),.int h]) fun x=>∃ d:DfM,∃ i':Nat,∃ h':Int,DfB d/\x=(0,[.sl code,.int (i':Int),.int h',.sl (d.so.map ai),.sl (d.op.map OpM.row),.sl (d.ru.map RuM.row),.sl (d.st.map StM.row)]):=by
 rw [e41_0_0];refine aj.bind (Eh hl _ _) ?_
 rintro _ ⟨d,i,h,hd,rfl⟩
 simp only [nv0,nvS,dvI,dvB,dvS,dvL,B5];refine aj.bind (bh hl _ _ (by decide) (by decide)) ?_
 rintro _ ⟨b,i,h,b0,b1,rfl⟩
 simp only [nv0,nvS,dvI,dvB,dvS,dvL,B5];refine aj.ite (fun _=>?_) (fun _=>?_)
 · refine aj.bind (Qz hl _ _) ?_
   rintro _ ⟨so,op,i,h,s1,s2,s3,s4,rfl⟩
   have hd2:DfW ⟨so,op,d.ru,d.st⟩:=⟨s1,s2,s3,s4,hd.ru,hd.rua,hd.st⟩;exact aj.ret ⟨_,i,h,hd2.b,rfl⟩
 refine aj.ite (fun _=>?_) (fun _=>?_)
 · refine aj.bind (dw hl _ _ (by decide) (by decide) 8 (by decide)) ?_
   rintro _ ⟨s,i,h,hs,rfl⟩
   simp only [nv0,nvS,dvI,dvB,dvS,dvL,B5];refine aj.bind (xg hl _ _) ?_
   rintro _ ⟨t,i,h,ht,rfl⟩
   simp only [nv0,nvS,dvI,dvB,dvS,dvL,B5];refine aj.bind (xg hl _ _) ?_
   rintro _ ⟨u,i,h,hu,rfl⟩
   have hru:=hd.ru;have hb63:F6 (d.ru.length+1) M63=true:=nb (by omega)
   simp only [nv0,nvS,dvI,dvB,dvS,dvL,B5,B6,C1,C7,D4,hb63,H1];have hb:=hd.b;have hn:RuB ⟨s,t,u,[]⟩:=⟨by show s.size<=maxLen; unfold maxLen; omega,ht.w,hu.w,by have:=ht.n; show t.nodes<=_; omega,by have:=hu.n; show u.nodes<=_; omega,Nat.zero_le _,by simp⟩
   refine aj.ret ⟨⟨d.so,d.op,d.ru++[⟨s,t,u,[]⟩],d.st⟩,i,h,⟨hb.so,hb.sos,hb.op,hb.opn,by show (d.ru++[_]).length<=_; simp; omega,fun r hr=>?_,hb.st⟩,by simp only [D5,C2,D1,RuM.row]⟩
   rcases D0.1 hr with hr | hr
   · exact hb.rua r hr
   · rw [E8.1 hr]; exact hn
 refine aj.ite (fun _=>?_) (fun _=>?_)
 · refine aj.bind (dw hl _ _ (by decide) (by decide) 8 (by decide)) ?_
   rintro _ ⟨s,i,h,hs,rfl⟩
   simp only [nv0,nvS,dvI,dvB,dvS,dvL,B5];refine aj.bind (bh hl _ _ (by decide) (by decide)) ?_
   rintro _ ⟨c,i,h,c0,c1,rfl⟩
   have hst:=hd.st;have hb63:F6 (d.st.length+1) M63=true:=nb (by omega)
   simp only [nv0,nvS,dvI,dvB,dvS,dvL,B5,B6,C1,C7,D4,hb63,H1];have hb:=hd.b;exact aj.ret ⟨⟨d.so,d.op,d.ru,d.st++[⟨s,c⟩]⟩,i,h,⟨hb.so,hb.sos,hb.op,hb.opn,hb.ru,hb.rua,by show (d.st++[_]).length<=_; simp; omega⟩,by simp only [D5,C2,D1,StM.row]⟩
 · exact aj.ret ⟨d,i,h,hd.b,rfl⟩
theorem Ra {code:aa} (hl:code.length<=1048576) (i:Nat) (h:Int):aj (rn ⟨73,0,0⟩ [.sl code,.int (i:Int),.int h]) (DW code 3000):=by
 rw [e73_0_0];refine aj.bind (bh hl _ _ (by decide) (by decide)) ?_
 rintro _ ⟨b,i,h,b0,b1,rfl⟩
 simp only [nv0,nvS,dvI,dvB,dvS,dvL,B5];have e:∃ d:Nat,IntKind.i64.wrap (2+b)=(d:Int)/\d<=4:=⟨(2+b).toNat,by rw [IntWalk.i64_in _ (by omega)]; omega,by omega⟩
 obtain ⟨d,e,hd⟩:=e;rw [e];have hp:4 ^ d<=4 ^ 4:=Nat.pow_le_pow_right (by decide) hd
 have hp4:4 ^ 4=256:=rfl;refine aj.bind (Cf hl d _ rfl 2048 (by omega) (by omega) _ _ _) ?_
 rintro _ ⟨t,i,h,ht,htn,rfl⟩
 have hw:Wn 2048 t:=ht.wn (by decide) htn
 have h1:=r69 t (hw.small (by decide))
 have hr:=Tv hw;simp only [nv0,nvS,dvI,dvB,dvS,dvL,B5,h1];refine aj.bind (bv hl _ _ (by decide) (by decide)) ?_
 rintro _ ⟨q,i,h,rfl⟩
 simp only [nv0,nvS,dvI,dvB,dvS,dvL,B5];refine aj.ite (fun _=>?_) (fun _=>?_)
 · simp only [vO,nv0,nvS,dvI,dvB,dvS,dvL,B5]
   exact aj.ret ⟨tO (⟨#[116,111,112]⟩:ByteArray) (rW t),i,h,(ol (by decide) hr).mono (by decide),rfl⟩
 · refine aj.bind (bv hl _ _ (by decide) (by decide)) ?_
   rintro _ ⟨q,i,h,rfl⟩
   simp only [nv0,nvS,dvI,dvB,dvS,dvL,B5];refine aj.ite (fun _=>?_) (fun _=>?_)
   · refine aj.bind (xg hl _ _) ?_
     rintro _ ⟨u,i,h,hu,rfl⟩
     exact aj.ret ⟨u,i,h,hu.mono (by decide),rfl⟩
   · exact aj.ret ⟨rW t,i,h,hr.mono (by decide),rfl⟩
theorem Nf {code:aa} (hl:code.length<=1048576):aj (rn ⟨28,0,0⟩ [.sl code]) fun x=>∃ d:DfM,∃ t:Tm,DfB d/\Wn 3000 t/\x=(0,[.int t.k,.int t.n,.str t.s,.sl (d.so.map ai),.sl (d.op.map OpM.row),.sl (d.ru.map RuM.row),.sl (d.st.map StM.row),.sl (t.as.map Tm.row)]):=by
 rw [e28_0_0];refine aj.bind (Jm hl) ?_
 rintro _ ⟨i,h,rfl⟩
 simp only [nv0,nvS,dvI,dvB,dvS,dvL,B5];refine aj.bind (Eh hl _ _) ?_
 rintro _ ⟨d,i,h,hd,rfl⟩
 simp only [nv0,nvS,dvI,dvB,dvS,dvL,B5];refine aj.bind (Ra hl _ _) ?_
 rintro _ ⟨t,i,h,ht,rfl⟩
 simp only [nv0,nvS,dvI,dvB,dvS,dvL,B5];refine aj.bind (bv hl _ _ (by decide) (by decide)) ?_
 rintro _ ⟨q,i,h,rfl⟩
 simp only [nv0,nvS,dvI,dvB,dvS,dvL,B5];refine aj.ite (fun _=>?_) (fun _=>?_)
 · refine aj.bind (Hv hl _ _) ?_
   rintro _ ⟨e,i,h,he,rfl⟩
   exact aj.ret ⟨e,t,he,ht,rfl⟩
 · exact aj.ret ⟨d,t,hd.b,ht,rfl⟩
end Go.Q.S
end
section
namespace Go.Q.S
open Go Go.Q Go.Proofs
def clB:List Bnd:=[(⟨#[88]⟩,tC ⟨#[97]⟩),(⟨#[89]⟩,tC ⟨#[98]⟩)]
theorem Ng (t:Tm) (ht:Wn 2048 t):∃ u:Tm,Wn 2048 u/\rn ⟨94,0,0⟩ [.int t.k,.int t.n,.str t.s,.sl (t.as.map Tm.row)]=some (0,[.int u.k,.int u.n,.str u.s,.sl (u.as.map Tm.row)]):=by
 have hw:∀ b∈clB,Wn 1 b.2:=fun b hb=>by
  simp only [clB,E0,Q1,or_false] at hb;rcases hb with rfl | rfl
  · exact Sp (by decide)
  · exact Sp (by decide)
 have h1:=r70 clB (by decide) (fun b hb=>(hw b hb).small (by decide)) t (ht.small (by decide))
 have h2:=ij (l:=clB) (m:=1) (by decide) (fun b hb=>(hw b hb).n) t
 have h3:=ht.n;refine ⟨aS clB t,⟨Kp (fun b hb=>(hw b hb).w) t ht.w,by omega⟩,?_⟩
 simp only [clB,C2,D1,ii] at h1;rw [e94_0_0];simp only [vC,nv0,nvS,dvI,dvB,dvS,dvL,B5,h1];rfl
structure SyW (vl:List ByteArray) (tm:Tm) (cl:List Int):Prop where
 v:vl.length<=10
 vs:∀ x∈vl,x.size<=1000
 t:Wn 3000 tm
 c:cl.length<=100
 ci:∀ x∈cl,S.i64ok x
theorem SyW.b {v:List ByteArray} {t:Tm} {c:List Int} (h:SyW v t c) {d:DfM} (hd:DfB d):SyB ⟨d,v,t,c⟩ :=
 ⟨hd,by have:=h.v; show v.length<=_; omega,fun x hx=>by have:=h.vs x hx; unfold maxLen; omega,h.t.w,by have:=h.t.n; show t.nodes<=_; omega,by have:=h.c; show c.length<=_; omega⟩
def DSy (code:aa) (x:Nat×List D):Prop:=∃ v:List ByteArray,∃ t:Tm,∃ c:List Int,∃ i':Nat,∃ h':Int,SyW v t c/\x=(0,[.int t.k,.int t.n,.str t.s,.sl code,.int (i':Int),.int h',.sl (v.map ai),.sl (t.as.map Tm.row),.sl (c.map am)])
def nmL:List ByteArray:=[⟨#[78]⟩,⟨#[77]⟩]
theorem Rb:∀ x∈nmL,x.size<=1000:=fun x hx=>by
 have:=E4.1 (show nmL.all (fun x=>decide (x.size<=1000))=true from by decide) x hx
 simpa using this
theorem Hw:([[.str (⟨#[78]⟩:ByteArray)],[.str (⟨#[77]⟩:ByteArray)]]:aa)=nmL.map ai:=rfl
theorem Hx (gs:List Gu) (hg:∀ g∈gs,GuW g) (hn:gs.length<=10):∃ c:List Int,c.length<=100/\(∀ x∈c,S.i64ok x)/\rn ⟨97,0,0⟩ [.sl (nmL.map ai),.sl (gs.map Gu.row)]=some (0,[.sl (c.map am)]):=by
 have h1:=r97 nmL gs (by omega) (fun g h=>⟨(hg g h).b.ln,(hg g h).b.rn⟩)
 have h2:=Pq nmL gs;refine ⟨(Mk nmL gs).map (fun n:Nat=>(n:Int)),by rw [B6]; omega,fun x hx=>?_,?_⟩
 · obtain ⟨n,hn,rfl⟩:=List.mem_map.1 hx
   exact Sb nmL gs n hn
 · rw [h1,List.map_map]; rfl
theorem Ll {code:aa} (hl:code.length<=1048576) (i:Nat) (h:Int):aj (rn ⟨43,0,0⟩ [.sl code,.int (i:Int),.int h]) (DSy code):=by
 rw [e43_0_0];refine aj.bind (bh hl _ _ (by decide) (by decide)) ?_
 rintro _ ⟨b,i,h,b0,b1,rfl⟩
 simp only [nv0,nvS,dvI,dvB,dvS,dvL,B5];have e:∃ d:Nat,IntKind.i64.wrap (2+b)=(d:Int)/\d<=4:=⟨(2+b).toNat,by rw [IntWalk.i64_in _ (by omega)]; omega,by omega⟩
 obtain ⟨d,e,hd⟩:=e;rw [e];have hp:4 ^ d<=4 ^ 4:=Nat.pow_le_pow_right (by decide) hd
 have hp4:4 ^ 4=256:=rfl;refine aj.bind (Cf hl d _ rfl 2048 (by omega) (by omega) _ _ _) ?_
 rintro _ ⟨t,i,h,ht,htn,rfl⟩
 obtain ⟨u,hu,e1⟩:=Ng t (ht.wn (by decide) htn)
 have e2:=r69 u (hu.small (by decide))
 have hr:=Tv hu;simp only [nv0,nvS,dvI,dvB,dvS,dvL,B5,e1,e2];refine aj.bind (bv hl _ _ (by decide) (by decide)) ?_
 rintro _ ⟨q,i,h,rfl⟩
 simp only [nv0,nvS,dvI,dvB,dvS,dvL,B5];refine aj.ite (fun _=>?_) (fun _=>?_)
 · refine aj.bind (bh hl _ _ (by decide) (by decide)) ?_
   rintro _ ⟨b,i,h,b0,b1,rfl⟩
   simp only [vV,nv0,nvS,dvI,dvB,dvS,dvL,B5];have ew:IntKind.i64.wrap (1+b)=1+b:=IntWalk.i64_in _ (by omega)
   rw [ew];refine aj.bind (Qy hl 2 _ rfl 64 (by decide) (by decide) _ _ _) ?_
   rintro _ ⟨z,i,h,hz,hzn,rfl⟩
   have hg:GuW ⟨1+b,tV ⟨#[78]⟩,z⟩:=⟨by show 0<=1+b/\1+b<=5; omega,(Qq (by decide)).mono (by decide),hz.wn (by decide) (by show z.nodes<=_; omega)⟩
   obtain ⟨c,c1,c2,c3⟩:=Hx [⟨1+b,tV ⟨#[78]⟩,z⟩] (by simpa using hg) (by simp)
   simp only [C2,D1,Gu.row] at c3;have hb63:F6 (0+1) M63=true:=by decide
   simp only [nv0,nvS,dvI,dvB,dvS,dvL,B5,C1,C7,hb63,H1,Hw,List.nil_append,c3];exact aj.ret ⟨nmL,rW u,c,i,h,⟨by decide,Rb,hr.mono (by decide),c1,c2⟩,rfl⟩
 · obtain ⟨c,c1,c2,c3⟩:=Hx [] (by simp) (by decide)
   simp only [D1] at c3;simp only [Hw,c3,nv0,nvS,dvI,dvB,dvS,dvL,B5];exact aj.ret ⟨nmL,rW u,c,i,h,⟨by decide,Rb,hr.mono (by decide),c1,c2⟩,rfl⟩
theorem Th {code:aa} (hl:code.length<=1048576) (i:Nat) (h:Int):aj (rn ⟨93,0,0⟩ [.sl code,.int (i:Int),.int h]) (DW code 3000):=by
 rw [e93_0_0];refine aj.bind (bv hl _ _ (by decide) (by decide)) ?_
 rintro _ ⟨q,i,h,rfl⟩
 simp only [nv0,nvS,dvI,dvB,dvS,dvL,B5];refine aj.ite (fun _=>?_) (fun _=>?_)
 · refine aj.bind (xg hl _ _) ?_
   rintro _ ⟨u,i,h,hu,rfl⟩
   exact aj.ret ⟨u,i,h,hu.mono (by decide),rfl⟩
 · refine aj.bind (dw hl _ _ (by decide) (by decide) 8 (by decide)) ?_
   rintro _ ⟨s,i,h,hs,rfl⟩
   simp only [nv0,nvS,dvI,dvB,dvS,dvL,B5];refine aj.bind (bv hl _ _ (by decide) (by decide)) ?_
   rintro _ ⟨q,i,h,rfl⟩
   simp only [nv0,nvS,dvI,dvB,dvS,dvL,B5];refine aj.bind (Xg hl s 4 _ rfl 2048 (by decide) (by decide) _ _ _) ?_
   rintro _ ⟨t,i,h,ht,htn,rfl⟩
   exact aj.ret ⟨t,i,h,ht.wn (by decide) (by omega),rfl⟩
theorem Nh {code:aa} (hl:code.length<=1048576) (i:Nat) (h:Int):aj (rn ⟨42,0,0⟩ [.sl code,.int (i:Int),.int h]) fun x=>∃ v:List ByteArray,∃ t:Tm,∃ c:List Int,∃ i':Nat,∃ h':Int,v.length<=20/\(∀ x∈v,x.size<=1000)/\Wn 3000 t/\c.length<=200/\(∀ x∈c,S.i64ok x)/\x=(0,[.int t.k,.int t.n,.str t.s,.sl code,.int (i':Int),.int h',.sl (v.map ai),.sl (t.as.map Tm.row),.sl (c.map am)]):=by
 rw [e42_0_0];refine aj.bind (Ll hl _ _) ?_
 rintro _ ⟨v,t,c,i,h,hs,rfl⟩
 have h1:=hs.v;have h2:=hs.c;simp only [nv0,nvS,dvI,dvB,dvS,dvL,B5];refine aj.bind (bh hl _ _ (by decide) (by decide)) ?_
 rintro _ ⟨b,i,h,b0,b1,rfl⟩
 simp only [nv0,nvS,dvI,dvB,dvS,dvL,B5];refine aj.ite (fun _=>?_) (fun _=>?_)
 · refine aj.bind (zp hl _ _ (by decide) (by decide) (by decide)) ?_
   rintro _ ⟨n,i,h,n0,n1,rfl⟩
   have hb63:F6 (c.length+1) M63=true:=nb (by omega)
   simp only [nv0,nvS,dvI,dvB,dvS,dvL,B5,B6,C1,C7,D4,hb63,H1];refine aj.ret ⟨v,t,c++[n],i,h,by omega,hs.vs,hs.t,by simp; omega,fun x hx=>?_,by rw [D5]; rfl⟩
   rcases D0.1 hx with hx | hx
   · exact hs.ci x hx
   · rw [E8.1 hx]; exact S.i64ok_of (by omega) (by omega)
 refine aj.ite (fun _=>?_) (fun _=>?_)
 · refine aj.bind (dw hl _ _ (by decide) (by decide) 8 (by decide)) ?_
   rintro _ ⟨s,i,h,hz,rfl⟩
   have hb63:F6 (v.length+1) M63=true:=nb (by omega)
   simp only [nv0,nvS,dvI,dvB,dvS,dvL,B5,B6,C1,C7,D4,hb63,H1];refine aj.ret ⟨v++[s],t,c,i,h,by simp; omega,fun x hx=>?_,hs.t,by omega,hs.ci,by rw [D5]; rfl⟩
   rcases D0.1 hx with hx | hx
   · exact hs.vs x hx
   · rw [E8.1 hx]; omega
 refine aj.ite (fun _=>?_) (fun _=>?_)
 · refine aj.bind (Th hl _ _) ?_
   rintro _ ⟨u,i,h,hu,rfl⟩
   exact aj.ret ⟨v,u,c,i,h,by omega,hs.vs,hu,by omega,hs.ci,rfl⟩
 · exact aj.ret ⟨v,t,c,i,h,by omega,hs.vs,hs.t,by omega,hs.ci,rfl⟩
end Go.Q.S
end
section
namespace Go.Proofs
open Go.Shelf
def Tryz.lays190_ren:Go.Shelf.Ren:=⟨fun | 190=>162 | 125=>187 | 258=>186 | 128=>202 | 129=>203 | 302=>193 | 303=>194 | 304=>195 | 305=>196 | 306=>197 | 307=>198 | 308=>199 | 309=>200 | 310=>201 | 333=>204 | 329=>205 | 330=>206 | 334=>207 | 335=>208 | 336=>209 | 344=>210 | n=>n,fun | 31=>24 | 9=>9 | 3=>3 | 46=>183 | 0=>0 | 51=>205 | 53=>207 | 4=>4 | 183=>197 | 182=>196 | 131=>202 | 5=>5 | 218=>208 | 222=>212 | 228=>214 | 229=>215 | n=>n,fun | n=>n⟩
theorem Tryz.lays190:Go.Proofs.Lays.n190 Tryz.prog Tryz.lays190_ren:={
 mixed:=by kernel_rfl
 f125:=Tryz.func187.trans (congrArg some (by kernel_rfl))
 f128:=Tryz.func202.trans (congrArg some (by kernel_rfl))
 f129:=Tryz.func203.trans (congrArg some (by kernel_rfl))
 f190:=Tryz.func162.trans (congrArg some (by kernel_rfl))
 f258:=Tryz.func186.trans (congrArg some (by kernel_rfl))
 f302:=Tryz.func193.trans (congrArg some (by kernel_rfl))
 f303:=Tryz.func194.trans (congrArg some (by kernel_rfl))
 f304:=Tryz.func195.trans (congrArg some (by kernel_rfl))
 f305:=Tryz.func196.trans (congrArg some (by kernel_rfl))
 f306:=Tryz.func197.trans (congrArg some (by kernel_rfl))
 f307:=Tryz.func198.trans (congrArg some (by kernel_rfl))
 f308:=Tryz.func199.trans (congrArg some (by kernel_rfl))
 f309:=Tryz.func200.trans (congrArg some (by kernel_rfl))
 f310:=Tryz.func201.trans (congrArg some (by kernel_rfl))
 f329:=Tryz.func205.trans (congrArg some (by kernel_rfl))
 f330:=Tryz.func206.trans (congrArg some (by kernel_rfl))
 f333:=Tryz.func204.trans (congrArg some (by kernel_rfl))
 f334:=Tryz.func207.trans (congrArg some (by kernel_rfl))
 f335:=Tryz.func208.trans (congrArg some (by kernel_rfl))
 f336:=Tryz.func209.trans (congrArg some (by kernel_rfl))
 f344:=Tryz.func210.trans (congrArg some (by kernel_rfl))
 t0:=Tryz.underlying0
 a0:=Tryz.isAgg0
 z0:=Tryz.sizeOf0
 v0:=Tryz.zeroValue0
 t3:=Tryz.underlying3
 a3:=Tryz.isAgg3
 z3:=Tryz.sizeOf3
 v3:=Tryz.zeroValue3
 t4:=Tryz.underlying4
 a4:=Tryz.isAgg4
 z4:=Tryz.sizeOf4
 v4:=Tryz.zeroValue4
 t5:=Tryz.underlying5
 a5:=Tryz.isAgg5
 z5:=Tryz.sizeOf5
 v5:=Tryz.zeroValue5
 t9:=Tryz.underlying9
 a9:=Tryz.isAgg9
 z9:=Tryz.sizeOf9
 v9:=Tryz.zeroValue9
 t31:=Tryz.underlying24
 a31:=Tryz.isAgg24
 z31:=Tryz.sizeOf24
 v31:=Tryz.zeroValue24
 t46:=Tryz.underlying183
 a46:=Tryz.isAgg183
 z46:=Tryz.sizeOf183
 v46:=Tryz.zeroValue183
 t51:=Tryz.underlying205
 a51:=Tryz.isAgg205
 z51:=Tryz.sizeOf205
 v51:=Tryz.zeroValue205
 t53:=Tryz.underlying207
 a53:=Tryz.isAgg207
 z53:=Tryz.sizeOf207
 v53:=Tryz.zeroValue207
 t131:=Tryz.underlying202
 a131:=Tryz.isAgg202
 z131:=Tryz.sizeOf202
 v131:=Tryz.zeroValue202
 t182:=Tryz.underlying196
 a182:=Tryz.isAgg196
 z182:=Tryz.sizeOf196
 v182:=Tryz.zeroValue196
 t183:=Tryz.underlying197
 a183:=Tryz.isAgg197
 z183:=Tryz.sizeOf197
 v183:=Tryz.zeroValue197
 t218:=Tryz.underlying208
 a218:=Tryz.isAgg208
 z218:=Tryz.sizeOf208
 v218:=Tryz.zeroValue208
 t222:=Tryz.underlying212
 a222:=Tryz.isAgg212
 z222:=Tryz.sizeOf212
 v222:=Tryz.zeroValue212
 t228:=Tryz.underlying214
 a228:=Tryz.isAgg214
 z228:=Tryz.sizeOf214
 v228:=Tryz.zeroValue214
 t229:=Tryz.underlying215
 a229:=Tryz.isAgg215
 z229:=Tryz.sizeOf215
 v229:=Tryz.zeroValue215 }
def Tryz.lays194_ren:Go.Shelf.Ren:=⟨fun | 194=>163 | n=>n,fun | 31=>24 | 9=>9 | 3=>3 | 4=>4 | 0=>0 | n=>n,fun | n=>n⟩
theorem Tryz.lays194:Go.Proofs.Lays.n194 Tryz.prog Tryz.lays194_ren:={
 mixed:=by kernel_rfl
 f194:=Tryz.func163.trans (congrArg some (by kernel_rfl))
 t0:=Tryz.underlying0
 a0:=Tryz.isAgg0
 z0:=Tryz.sizeOf0
 v0:=Tryz.zeroValue0
 t3:=Tryz.underlying3
 a3:=Tryz.isAgg3
 z3:=Tryz.sizeOf3
 v3:=Tryz.zeroValue3
 t4:=Tryz.underlying4
 a4:=Tryz.isAgg4
 z4:=Tryz.sizeOf4
 v4:=Tryz.zeroValue4
 t9:=Tryz.underlying9
 a9:=Tryz.isAgg9
 z9:=Tryz.sizeOf9
 v9:=Tryz.zeroValue9
 t31:=Tryz.underlying24
 a31:=Tryz.isAgg24
 z31:=Tryz.sizeOf24
 v31:=Tryz.zeroValue24 }
end Go.Proofs
namespace Go.Q.S
open Go Go.Q Go.Proofs
theorem Ei:∀ {l:List (Nat×Nat×KI)} {v n:Nat} {i:KI},kiF l v n=some i->∃ a b,(a,b,i)∈l
 | [],v,n,i,h=>by simp [kiF] at h
 | (a,b,x)::r,v,n,i,h=>by
  unfold kiF at h;cases hb:E6 a v&&E6 b n with
  | true=>rw [hb] at h; simp only [H1,C9.injEq] at h; exact ⟨a,b,by rw [h]; exact List.mem_cons_self ..⟩
  | false =>
   rw [hb] at h;obtain ⟨a',b',h'⟩:=Ei h;exact ⟨a',b',List.mem_cons_of_mem _ h'⟩
theorem Vo:∀ f g,H.ext f=some g->∀ v ls x,g v ls=some x->FnT Tryz.prog H ⟨f,v,0⟩ ls x:=fun f g h v ls x hx=>by
 have h:ar Vi f=some g:=h;simp only [Vi,ar] at h;cases h1:E6 162 f with
 | true =>
  rw [h1] at h;simp only [H1,C9.injEq] at h;subst h;obtain rfl:=br.1 h1;refine Pf Go.Proofs.Tryz.lays190 rfl (E:=9) (fl:=[]) rfl Tryz.func162 (fun he=>by cases he) (of_decide_eq_false (by kernel_rfl)) (fun i hi=>?_) hx
  obtain ⟨a,b,hm⟩:=Ei (l:=[(0,0,⟨[(0,.hd 0)],[(0,.arr 9 .deep)],[⟨.ret,[],[(0,.arr 9 .deep)]⟩]⟩)]) hi;simp only [E0,Q1,or_false,Prod.mk.injEq] at hm;exact hm.2.2
 | false =>
 rw [h1] at h;simp only [H2] at h;cases h1:E6 163 f with
 | true =>
  rw [h1] at h;simp only [H1,C9.injEq] at h;subst h;obtain rfl:=br.1 h1;refine Pg Go.Proofs.Tryz.lays194 rfl (E:=9) (fl:=[]) rfl Tryz.func163 (fun he=>by cases he) (of_decide_eq_false (by kernel_rfl)) (fun i hi=>?_) hx
  obtain ⟨a,b,hm⟩:=Ei (l:=[(0,0,⟨[(0,.hd 0)],[(0,.arr 9 .deep)],[⟨.ret,[(0,.hd 16)],[(16,.arr 9 .deep)]⟩]⟩)]) hi;simp only [E0,Q1,or_false,Prod.mk.injEq] at hm;exact hm.2.2
 | false =>
 rw [h1] at h;simp only [H2] at h;simp at h
theorem Wq:Rs Tryz.prog H where
 ty:=Ru (l:=tyL) (fun _=>rfl) (by kernel_rfl)
 eq:=Rv (l:=eqL) (fun _=>rfl) (by kernel_rfl)
 mixed:=Tryz.checked.mixed
 names:=Pe (by kernel_rfl)
 ext:=Vo
end Go.Q.S
end
