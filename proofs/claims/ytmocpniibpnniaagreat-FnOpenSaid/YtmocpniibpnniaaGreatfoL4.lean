/- For all arguments the law FnOpen answers true and leaves its arguments as they were; no condition. -/
import Derived.Test.YtmocpniibpnniaaGreatPB
import Derived.Test.YtmocpniibpnniaaGreatfoE5
import Derived.Test.YtmocpniibpnniaaGreatRows
import Derived.WalkKit
import Derived.ProofKit
import Derived.OpenShut
import Derived.ShutString
import Derived.ChangeOld
import Derived.Below
import Derived.SizedLaws
set_option linter.unusedVariables false
set_option linter.unusedSimpArgs false
open Bool renaming not_true->E7,true_and->J5,not_false->K5
open Int renaming toNat_natCast->B9,ofNat_lt->C5,natCast_zero->C9,eq_ofNat_of_zero_le->Q5
open List renaming length_map->B6,drop_eq_getElem_cons->C2,map_cons->C3,length_cons->C4,length_nil->D0,mem_cons->D4,drop_length->D5,map_nil->D8,append_assoc->D9,nil_append->E2,map_append->E3,drop_zero->E4,cons_append->G9,append_nil->J8,all_cons->K2,filter_cons->N6,all_nil->O8
open Nat renaming zero_add->D7,lt_irrefl->E6,ble->E8,beq_refl->F1,le_refl->F5,zero_le->J4
open Option renaming bind_some->B4
namespace Go.Q.S
open Go Go.Q Go.Proofs
def L5:List CT:=[.int .u8]
theorem ty5:H.ty 5=some ⟨false,L5,[]⟩:=by kernel_rfl
theorem wl5 {ds:List D} (h:WL H ds L5):∃ a0,ds=[D.int a0]:=by
 unfold L5 at h;obtain ⟨a0,_,rfl,_,h⟩:=wl_int h;obtain rfl:=wl_nil h;exact ⟨a0,rfl⟩
def L22:List CT:=[.sl 5]
theorem ty22:H.ty 22=some ⟨false,L22,[]⟩:=by kernel_rfl
theorem wl22 {ds:List D} (h:WL H ds L22):∃ a0,ds=[D.sl a0]/\a0.length<=maxLen/\WRs H a0 L5:=by
 unfold L22 at h;obtain ⟨a0,_,rfl,b0,c0,h⟩:=wl_sl ty5 h;obtain rfl:=wl_nil h;exact ⟨a0,rfl,b0,c0⟩
theorem big_ok (code:Rows):rn ⟨5,0,0⟩ [.sl code]=some (0,[.bool (decide ((1048576:Int)<code.length))]):=by rw [e5_0_0]
theorem sintsR (a:List Int) (ha:a.length<=1048576):rn ⟨11,0,0⟩ [.sl (a.map iRow),.sl (a.map iRow)]=some (0,[.bool true]):=by
 have key:∀ n i,i+n=a.length->rn ⟨11,0,1⟩ [.sl (a.map iRow),.sl (a.map iRow),.int (i:Int)]=some (0,[]):=by
  intro n;induction n with
  | zero =>
   intro i hi;obtain rfl:i=a.length:=by omega
   rw [e11_0_1];simp only [B6,C5,E6,H4,H2,D5]
  | succ n ih =>
   intro i hi;have hlt:i<a.length:=by omega
   rw [e11_0_1];simp only [B6,C5,hlt,H3,H1,inbN,B9,rowAt_map hlt,wrap_succ hlt (maxB (by omega)),iRow,nv0,nvS,dvI,dvB,dvS,dvL,B4,H3,E7,H2,ih (i+1) (by omega)]
 have h:=key a.length 0 (D7 _);simp only [C9] at h;rw [e11_0_0];simp only [H3,E7,H2,h,nv0,nvS,dvI,dvB,dvS,dvL,B4,F1,H1,H2]
theorem has_ok (l:List Int) (hl:l.length<=1048576) (x:Int) (hx:x∈l):rn ⟨20,0,0⟩ [.sl (l.map iRow),.int x]=some (0,[.bool true]):=by
 have key:∀ n i,i+n=l.length->x∈l.drop i->rn ⟨20,0,1⟩ [.sl (l.map iRow),.int x,.int (i:Int)]=some (1,[]):=by
  intro n;induction n with
  | zero =>
   intro i hi hm;obtain rfl:i=l.length:=by omega
   simp at hm
  | succ n ih =>
   intro i hi hm;have hlt:i<l.length:=by omega
   rw [C2 hlt] at hm;rw [e20_0_1];simp only [B6,C5,hlt,H3,H1,inbN,B9,rowAt_map hlt,wrap_succ hlt (maxB (by omega)),iRow,nv0,nvS,dvI,dvB,dvS,dvL,B4]
   by_cases e:l[i]=x
   · simp only [H7 e,H1]
   · simp only [H8 e,H2]
     rcases D4.1 hm with e' | hm
     · exact absurd e'.symm e
     · exact ih (i+1) (by omega) hm
 have h:=key l.length 0 (D7 _) (by simpa using hx)
 simp only [C9] at h;rw [e20_0_0];simp only [h];rfl
theorem opIA (g:ClM) (hb:ClB g) (t:Tm) (ht:Small t) (cl:List Int) (hcl:cl.length<=1048576):rn ⟨17,0,0⟩ [.sl (g.v.map sRow),.int (g.l).k,.int (g.l).n,.str (g.l).s,.sl ((g.l).as.map Tm.row),.int (g.r).k,.int (g.r).n,.str (g.r).s,.sl ((g.r).as.map Tm.row),.sl (g.g.map Gu.row),.sl (g.v.map sRow),.int t.k,.int t.n,.str t.s,.sl (t.as.map Tm.row),.sl (cl.map iRow)]=some (0,[.sl ((opA g t cl).map iRow)]):=by
 have hrn:=hb.rn;have hlp:∀ n i (acc:List Int),i+n=cl.length->acc.length<=i->rn ⟨17,0,1⟩ [.sl (cl.map iRow),.int (cl.length:Int),.int (i:Int),.sl (g.v.map sRow),.int (g.l).k,.int (g.l).n,.str (g.l).s,.sl ((g.l).as.map Tm.row),.int (g.r).k,.int (g.r).n,.str (g.r).s,.sl ((g.r).as.map Tm.row),.sl (g.g.map Gu.row),.sl (g.v.map sRow),.int t.k,.int t.n,.str t.s,.sl (t.as.map Tm.row),.sl (cl.map iRow),.sl (acc.map iRow)]=bif ((cl.drop i).all fun k=>isC g.v.length k) then some (0,[.sl ((acc++opC g t (cl.drop i)).map iRow)]) else some (1,[.sl []]):=by
  intro n;induction n with
  | zero =>
   intro i acc hi _;obtain rfl:i=cl.length:=by omega
   rw [e17_0_1];simp only [B6,C5,E6,H4,H2,D5,opC,List.filter_nil,J8,O8,H1]
  | succ n ih =>
   intro i acc hi ha;have hlt:i<cl.length:=by omega
   have h1:=r36 g.v t ht (cl.map iRow) cl[i];have h2:=r14 g.v g.l g.r (small_of _ hrn) (g.g.map Gu.row) cl[i];have h3:=r40 (S.instR g.v t cl[i]) (S.instR g.v g.r cl[i]) (S.instR_small ht cl[i]);have b1:E8 (acc.length+1) M63=true:=nb (by omega)
   have i1:=ih (i+1) acc (by omega) (by omega)
   have i2:=ih (i+1) (acc++[cl[i]]) (by omega) (by simp; omega)
   simp only [E3,C3,D8,D9,G9,E2] at i2;unfold opC at i1 i2 ⊢;rw [C2 hlt,N6,e17_0_1,K2];simp only [B6,C5,hlt,H3,H1,inbN,B9,rowAt_map hlt,wrap_succ hlt (maxB (by omega)),iRow,nv0,nvS,dvI,dvB,dvS,dvL,B4,h1,h2,h3,C4,D0,D7,b1]
   cases isC g.v.length cl[i] with
   | false=>rfl
   | true =>
    simp only [E7,H2,J5];cases eqb (S.instR g.v t cl[i]).row (S.instR g.v g.r cl[i]).row with
    | true=>exact i1
    | false =>
     simp only [K5,H1,if_true,E3,C3];exact i2
 have h1:=hlp cl.length 0 [] (D7 _) (F5 _);simp only [C9,E4,D8,E2] at h1;rw [e17_0_0];simp only [B6,h1];unfold opA;cases cl.all fun k=>isC g.v.length k <;> rfl
theorem opSA (g:ClM) (hb:ClB g) (t:Tm) (ht:Small t) (cl:List Int) (hcl:cl.length<=1048576):rn ⟨18,0,0⟩ [.sl (g.v.map sRow),.int (g.l).k,.int (g.l).n,.str (g.l).s,.sl ((g.l).as.map Tm.row),.int (g.r).k,.int (g.r).n,.str (g.r).s,.sl ((g.r).as.map Tm.row),.sl (g.g.map Gu.row),.sl (g.v.map sRow),.int t.k,.int t.n,.str t.s,.sl (t.as.map Tm.row),.sl (cl.map iRow)]=some (0,[.sl ((opA g t cl).map iRow)]):=by
 have hrn:=hb.rn;have hlp:∀ n i (acc:List Int),i+n=cl.length->acc.length<=i->rn ⟨18,0,1⟩ [.int (i:Int),.sl (g.v.map sRow),.int (g.l).k,.int (g.l).n,.str (g.l).s,.sl ((g.l).as.map Tm.row),.int (g.r).k,.int (g.r).n,.str (g.r).s,.sl ((g.r).as.map Tm.row),.sl (g.g.map Gu.row),.sl (g.v.map sRow),.int t.k,.int t.n,.str t.s,.sl (t.as.map Tm.row),.sl (cl.map iRow),.sl (acc.map iRow)]=bif ((cl.drop i).all fun k=>isC g.v.length k) then some (0,[.sl ((acc++opC g t (cl.drop i)).map iRow)]) else some (1,[.sl []]):=by
  intro n;induction n with
  | zero =>
   intro i acc hi _;obtain rfl:i=cl.length:=by omega
   rw [e18_0_1];simp only [B6,C5,E6,H4,H2,D5,opC,List.filter_nil,J8,O8,H1]
  | succ n ih =>
   intro i acc hi ha;have hlt:i<cl.length:=by omega
   have h1:=r19 g.v t ht (cl.map iRow) cl[i];have h2:=r15 g.v g.l g.r (small_of _ hrn) (g.g.map Gu.row) cl[i];have h3:=r13 (S.instR g.v t cl[i]) (S.instR g.v g.r cl[i]) (S.instR_small ht cl[i]);have b1:E8 (acc.length+1) M63=true:=nb (by omega)
   have i1:=ih (i+1) acc (by omega) (by omega)
   have i2:=ih (i+1) (acc++[cl[i]]) (by omega) (by simp; omega)
   simp only [E3,C3,D8,D9,G9,E2] at i2;unfold opC at i1 i2 ⊢;rw [C2 hlt,N6,e18_0_1,K2];simp only [B6,C5,hlt,H3,H1,inbN,B9,rowAt_map hlt,wrap_succ hlt (maxB (by omega)),iRow,nv0,nvS,dvI,dvB,dvS,dvL,B4,h1,h2,h3,C4,D0,D7,b1]
   cases isC g.v.length cl[i] with
   | false=>rfl
   | true =>
    simp only [E7,H2,J5];cases eqb (S.instR g.v t cl[i]).row (S.instR g.v g.r cl[i]).row with
    | true=>exact i1
    | false =>
     simp only [K5,H1,if_true,E3,C3];exact i2
 have h1:=hlp cl.length 0 [] (D7 _) (F5 _);simp only [C9,E4,D8,E2] at h1;rw [e18_0_0];simp only [h1];unfold opA;cases cl.all fun k=>isC g.v.length k <;> rfl
def nm4:List ByteArray:=[⟨#[77]⟩,⟨#[78]⟩,⟨#[75]⟩,⟨#[76]⟩]
theorem pickN_ok {code:Rows} (hl:code.length<=1048576) (i:Nat) (h:Int):Good (rn ⟨44,0,0⟩ [.sl [[.int 1],[.int 2],[.int 2],[.int 2],[.int 3],[.int 4]],.sl code,.int (i:Int),.int h]) fun x=>∃ n:Int,∃ i':Nat,∃ h':Int,(0<=n/\n<=4)/\x=(0,[.int n,.sl code,.int ((i':Nat):Int),.int h']):=by
 rw [e44_0_0];refine Good.bind (below_ok hl i h (by decide) (by decide)) ?_
 rintro _ ⟨b,i',h',b0,b1,rfl⟩
 simp only [nv0,nvS,dvI,dvB,dvS,dvL,B4];obtain ⟨n,rfl⟩:=Q5 b0;have hn:n<6:=by simp only [C4,D0] at b1; omega
 have hk:∀ k,k<6->0<=(nth (rowAt [[.int 1],[.int 2],[.int 2],[.int 2],[.int 3],[.int 4]] k) 0).I/\(nth (rowAt [[.int 1],[.int 2],[.int 2],[.int 2],[.int 3],[.int 4]] k) 0).I<=4:=by decide
 simp only [inbN,B9,C4,D0,D7,show n<1+1+1+1+1+1 from hn,H3,H1]
 exact Good.ret ⟨_,i',h',hk n hn,rfl⟩
theorem dmap_ok {code:Rows} (hl:code.length<=1048576):∃ c:Int,∃ n:Nat,∃ t u:Tm,n<=4/\Small t/\Small u/\rn ⟨21,0,0⟩ [.sl code]=some (0,[.int c,.sl ((nm4.take n).map sRow),.sl (nmL.map sRow),.sl (([(⟨#[78]⟩,t),(⟨#[77]⟩,u)]:List Bnd).map Bnd.row)]):=by
 obtain ⟨_,e1,i,h,rfl⟩:=new_ok hl;obtain ⟨_,e2,t,i,h,ht,htn,rfl⟩:=wordN hl 2 2 rfl 16 (by decide) (by decide) false i h
 obtain ⟨_,e3,u,i,h,hu,hun,rfl⟩:=wordN hl 3 3 rfl 64 (by decide) (by decide) false i h
 obtain ⟨_,e4,b,i,h,b0,b1,rfl⟩:=below_ok hl i h (n:=18) (by decide) (by decide)
 obtain ⟨_,e5,f,i',h',⟨f0,f1⟩,rfl⟩:=pickN_ok hl i h;obtain ⟨n,rfl⟩:=Q5 f0;refine ⟨IntKind.i64.wrap (b-1),n,t,u,by omega,small_of _ (by omega),small_of _ (by omega),?_⟩
 rw [e21_0_0];have q1:(decide ((0:Int)<=0)&&(decide ((0:Int)<=(n:Int))&&decide ((n:Int)<=((([[.str (⟨#[77]⟩:ByteArray)],[.str (⟨#[78]⟩:ByteArray)],[.str (⟨#[75]⟩:ByteArray)],[.str (⟨#[76]⟩:ByteArray)]]:Rows)).length:Int))))=true:=by
  simp only [C4,D0,Bool.and_eq_true,decide_eq_true_eq];omega
 have q2:(((([[.str (⟨#[77]⟩:ByteArray)],[.str (⟨#[78]⟩:ByteArray)],[.str (⟨#[75]⟩:ByteArray)],[.str (⟨#[76]⟩:ByteArray)]]:Rows)).take (Int.toNat (n:Int))).drop (Int.toNat 0))=(nm4.take n).map sRow:=take_strs n nm4;simp only [e1,e2,e3,e4,e5,nv0,nvS,dvI,dvB,dvS,dvL,B4,q1,H1];rw [q2];simp only [C3,D8,bd_row,sRow,nmL]
theorem ssC_len (s:SyM) (k:Int):(ssC (ssO s k)).length<=s.c.length:=by
 unfold ssO;split
 · cases hb:(brL s)[k.toNat]? with
   | none=>exact J4 _
   | some b =>
    simp only;split
    · have hm:=List.mem_of_getElem? hb
      unfold brL at hm;split at hm
      · have h1:=(brF_sub (d:=s.d) (v:=s.v) (t:=s.t) s.c [] [] (by simp) b hm).1.length_le
        rw [E2] at h1;exact h1
      · simp at hm
    · exact J4 _
 · exact J4 _
structure OpS (d:DfM) (v:List ByteArray) (t:Tm) (c:List Int):Prop where
 b:SyB ⟨d,v,t,c⟩
 l:c.length<=64
 i:∀ x∈c,S.i64ok x
theorem dopen_ok {code:Rows} (hl:code.length<=1048576):∃ d:DfM,∃ v:List ByteArray,∃ l r t:Tm,∃ g:List Gu,∃ c:List Int,DfW d/\ClW v l r g/\t.nodes<=1048576/\c.length<=65/\rn ⟨16,0,0⟩ [.sl code]=some (0,[.int l.k,.int l.n,.str l.s,.int r.k,.int r.n,.str r.s,.int t.k,.int t.n,.str t.s,.sl (v.map sRow),.sl (l.as.map Tm.row),.sl (r.as.map Tm.row),.sl (g.map Gu.row),.sl (v.map sRow),.sl (t.as.map Tm.row),.sl (c.map iRow)]):=by
 obtain ⟨_,e1,i,h,rfl⟩:=new_ok hl;obtain ⟨_,e2,d,v,l,r,g,i,h,hd,hc,_,rfl⟩:=dclaim_ok hl i h;have hv:=hc.v;have hg:=hc.g;have hln:=hc.l.n;have hgo:∀ x∈g,x.ok:=fun x hx=>⟨(hc.ga x hx).b.ln,(hc.ga x hx).b.rn⟩
 have hal:=allC_len v g;have e3:=r10 v (by omega) l r (hc.l.small (by decide)) g (by omega) hgo
 have eN:(allC v g).map nRow=((allC v g).map fun (i:Nat)=>(i:Int)).map iRow:=by rw [List.map_map]; rfl
 rw [eN] at e3;obtain ⟨_,e4,b,i,h,b0,b1,rfl⟩:=below_ok hl i h (n:=4) (by decide) (by decide)
 have hs0:OpS d v l ((allC v g).map fun (i:Nat)=>(i:Int)):=⟨⟨hd.b,by show v.length<=_; omega,fun x hx=>by have:=hc.vs x hx; unfold maxLen; omega,hc.l.w,by show l.nodes<=_; omega,by show (List.map _ _).length<=_; rw [B6]; omega⟩,by rw [B6]; omega,fun x hx=>by
  obtain ⟨n,hn,rfl⟩:=List.mem_map.1 hx;exact S.allC_ok v g n hn⟩
 have hn0:l.nodes<=1048576:=by omega
 generalize hc0:(allC v g).map (fun (i:Nat)=>(i:Int))=c0 at e3 hs0
 have key:∀ (n k:Nat) (t:Tm) (c:List Int) (i:Nat) (h:Int),k+n=b.toNat->OpS d v t c->t.nodes<=1048576->∃ t':Tm,∃ c':List Int,∃ i':Nat,∃ h':Int,OpS d v t' c'/\t'.nodes<=1048576/\rn ⟨16,0,1⟩ [.int b,.int (k:Int),.int 0,.int 0,.str ⟨#[]⟩,.int 0,.int 0,.str ⟨#[]⟩,.int 0,.int 0,.str ⟨#[]⟩,.sl code,.int (i:Int),.int h,.int l.k,.int l.n,.str l.s,.int r.k,.int r.n,.str r.s,.int t.k,.int t.n,.str t.s,.sl [],.sl [],.sl [],.sl [],.sl [],.sl [],.sl [],.sl (d.so.map sRow),.sl (d.op.map OpM.row),.sl (d.ru.map RuM.row),.sl (d.st.map StM.row),.sl (v.map sRow),.sl (l.as.map Tm.row),.sl (r.as.map Tm.row),.sl (g.map Gu.row),.sl (v.map sRow),.sl (t.as.map Tm.row),.sl (c.map iRow)]=some (0,[.int 0,.int 0,.str ⟨#[]⟩,.int 0,.int 0,.str ⟨#[]⟩,.int 0,.int 0,.str ⟨#[]⟩,.sl code,.int (i':Int),.int h',.int l.k,.int l.n,.str l.s,.int r.k,.int r.n,.str r.s,.int t'.k,.int t'.n,.str t'.s,.sl [],.sl [],.sl [],.sl [],.sl [],.sl [],.sl [],.sl (v.map sRow),.sl (l.as.map Tm.row),.sl (r.as.map Tm.row),.sl (g.map Gu.row),.sl (v.map sRow),.sl (t'.as.map Tm.row),.sl (c'.map iRow)]):=by
  intro n;induction n with
  | zero =>
   intro k t c i h hk hs ht;refine ⟨t,c,i,h,hs,ht,?_⟩;rw [e16_0_1,H8 (show ¬(k:Int)<b by omega)]
   rfl
  | succ n ih =>
   intro k t c i h hk hs ht;obtain ⟨_,f1,q,i,h,q0,q1,rfl⟩:=below_ok hl i h (n:=2) (by decide) (by decide)
   have f2:=r38 ⟨d,v,t,c⟩ hs.b q;have hg:=ss_good hs.b hs.i q;have hlc:=ssC_len ⟨d,v,t,c⟩ q;have ew:IntKind.i64.wrap ((k:Int)+1)=((k+1:Nat):Int):=by rw [IntWalk.i64_in _ (by omega)]; omega
   have hsl:=hs.l;generalize ssO ⟨d,v,t,c⟩ q=o at f2 hg hlc;rw [e16_0_1,H7 (show (k:Int)<b by omega)]
   simp only [H1,f1,nv0,nvS,dvI,dvB,dvS,dvL,B4,f2,ssD,ew];cases o with
   | none =>
    simp only [Option.isSome_none,H2];exact ih (k+1) t c i h (by omega) hs ht
   | some x =>
    have hgn:=hg.n;simp only [ssT,ssC,ssV] at hg hlc hgn ⊢;simp only [Option.isSome_some,H1];exact ih (k+1) _ _ i h (by omega) ⟨⟨hd.b,hg.v,hg.vs,hg.w,Nat.le_trans hgn (by decide),hg.c⟩,by omega,hg.ci⟩ (by omega)
 obtain ⟨t,c,i,h,hs,ht,e5⟩:=key b.toNat 0 l c0 i h (D7 _) hs0 hn0;simp only [C9] at e5;obtain ⟨_,e6,q,i,h,rfl⟩:=once_ok hl i h (n:=12) (by decide) (by decide)
 have hsl:=hs.l;have hb63:E8 (c.length+1) M63=true:=nb (by omega)
 cases hq:q with
 | true =>
  refine ⟨d,v,l,r,t,g,c++[99],hd,hc,ht,by rw [List.length_append,List.length_singleton]; omega,?_⟩
  rw [e16_0_0];simp only [e1,e2,e3,e4,e5,e6,nv0,nvS,dvI,dvB,dvS,dvL,B4,F1,H1,H2,hq,B6,C4,D0,D7,hb63,E3,C3,D8,iRow]
 | false =>
  refine ⟨d,v,l,r,t,g,c,hd,hc,ht,by omega,?_⟩
  rw [e16_0_0];simp only [e1,e2,e3,e4,e5,e6,nv0,nvS,dvI,dvB,dvS,dvL,B4,F1,H1,H2,hq]
theorem law4r (code:Rows):rn ⟨4,0,0⟩ [.sl code]=some (0,[.bool true]):=by
 rw [e4_0_0,big_ok];simp only [nv0,nvS,dvI,dvB,dvS,dvL,B4];by_cases hl:code.length<=1048576
 case neg=>rw [H7 (by omega:(1048576:Int)<code.length)]; rfl
 rw [H8 (by omega:¬(1048576:Int)<code.length)]
 obtain ⟨d,v,l,r,t,g,c,hd,hc,ht,hcl,e1⟩:=dopen_ok hl;have hts:Small t:=small_of _ (by omega)
 have hrs:Small r:=hc.r.small (by decide)
 have x1:=opIA ⟨d,v,l,r,g⟩ (hc.b hd.b) t hts c (by omega)
 have x2:=opSA ⟨d,v,l,r,g⟩ (hc.b hd.b) t hts c (by omega)
 have hle:=opA_len ⟨d,v,l,r,g⟩ t c;have hmem:=fun k (hk:k∈opA ⟨d,v,l,r,g⟩ t c)=>opA_mem hk
 generalize opA ⟨d,v,l,r,g⟩ t c=L at x1 x2 hle hmem;simp only at hmem x1 x2;have x3:=sintsR L (by omega)
 have key:∀ n i,i+n=L.length->rn ⟨4,0,1⟩ [.sl code,.int (i:Int),.int l.k,.int l.n,.str l.s,.int r.k,.int r.n,.str r.s,.int t.k,.int t.n,.str t.s,.sl (L.map iRow),.sl (v.map sRow),.sl (l.as.map Tm.row),.sl (r.as.map Tm.row),.sl (g.map Gu.row),.sl (v.map sRow),.sl (t.as.map Tm.row),.sl (c.map iRow)]=some (0,[.sl code]):=by
  intro n;induction n with
  | zero =>
   intro i hi;obtain rfl:i=L.length:=by omega
   rw [e4_0_1];simp only [B6,C5,E6,H4,H2,D5]
  | succ n ih =>
   intro i hi;have hlt:i<L.length:=by omega
   obtain ⟨g1,g2⟩:=hmem _ (List.getElem_mem hlt);have y1:=r19 v t hts (c.map iRow) L[i];have y2:=r15 v l r hrs (g.map Gu.row) L[i];have y3:=r13 (S.instR v t L[i]) (S.instR v r L[i]) (S.instR_small hts _);rw [g2] at y3;have y4:=has_ok c (by omega) _ g1
   rw [e4_0_1];simp only [B6,C5,hlt,H3,H1,inbN,B9,rowAt_map hlt,wrap_succ hlt (maxB (by omega)),iRow,nv0,nvS,dvI,dvB,dvS,dvL,B4,y1,y2,y3,y4,H2,E7,ih (i+1) (by omega)]
 have k0:=key L.length 0 (D7 _);simp only [C9] at k0;obtain ⟨m,n,p,u,hn,hp,hu,e2⟩:=dmap_ok hl;have hbs:∀ b∈([(⟨#[78]⟩,p),(⟨#[77]⟩,u)]:List Bnd),Small b.2:=fun b hb=>by
  simp only [D4,List.not_mem_nil,or_false] at hb;rcases hb with rfl | rfl
  · exact hp
  · exact hu
 have z1:=mpI nmL m (nm4.take n) [(⟨#[78]⟩,p),(⟨#[77]⟩,u)] (by simp) hbs
 have z2:=mpS nmL m (nm4.take n) [(⟨#[78]⟩,p),(⟨#[77]⟩,u)] (by simp) hbs
 have z3:=mapRes_lt nmL m (nm4.take n) [(⟨#[78]⟩,p),(⟨#[77]⟩,u)];generalize mapRes nmL m (nm4.take n) [(⟨#[78]⟩,p),(⟨#[77]⟩,u)]=R at z1 z2 z3;have z4:=r24 (nm4.take n).length;have hbb:(R.2==R.2)=true:=by cases R.2 <;> rfl
 simp only [H2,e1,nv0,nvS,dvI,dvB,dvS,dvL,B4,x1,x2,x3,E7,k0,F1,H1,H2,e2,z1,z2,H3,hbb,B6,z4];cases hR:R.2 with
 | false=>rfl
 | true =>
  obtain ⟨w1,w2⟩:=z3 hR;simp only [E7,H2,H7 w1,H7 w2,H1]
theorem law4 {x0:List D} (h0:WL H x0 L22):rn ⟨4,0,0⟩ x0=some (0,[.bool true]):=by
 obtain ⟨a,rfl,_,hw⟩:=wl22 h0;exact law4r a
end Go.Q.S
namespace Go.Q.S
open Go Go.Q Go.Proofs
theorem ki4:H.ki ⟨4,0,0⟩=some ⟨[(0,argSh ((H.ty 22).getD default))],[],[⟨.ret,[(0,.bool)],[]⟩]⟩:=by kernel_rfl
theorem plain4:plainB Tryz.prog H [5,22]=true:=by kernel_rfl
end Go.Q.S
namespace Go.Proofs.YtmocpniibpnniaaGreat.fnOpen
open Go Go.Q Go.Q.S
open Go.ChangeShapes Go.WideShapes Go.ChangeAt Go.RowKit
open Go.ChangeMaps (open_string shut_string)
theorem own:ownKnob Tryz.prog.godebug=none:=by kernel_rfl
theorem laid:laidOutB Tryz.prog=true:=by kernel_rfl
set_option maxRecDepth 100000 in
theorem lifted (os:Os) (started:os.Started) (H:Type) (enc:TypeId × Value->H) :
 ReturnsInHanded {} Tryz.checked os 4 .any (Rows.fnOpenSpec.pre6 enc Tryz.prog Tryz.f4 Rows.fnOpenRow.domain false) (Rows.fnOpenSpec.post enc Tryz.prog Tryz.f4 false true false false):=by
 refine returnsInHanded_of_change_sized (C:=Tryz.checked) own started (by kernel_rfl) Tryz.func4
  (ChangeSpec.witness6 (enc:=enc) (C:=Tryz.checked) false ⟨#[],#[.slice none 0 0],[]⟩ 8 (by kernel_rfl) (by kernel_rfl) (by kernel_rfl) (by kernel_rfl)) ?_
 intro W base args ds gs before hval0 hW hcnd hsz0 _;have hval:∀ (j:Nat) t v,Tryz.f4.params[j]?=some t->args[j]?=some v->Value.okWide Tryz.prog W .any base t v:=hval0;have hW':=hW;obtain ⟨p,q,hA0,hV,rfl,hfz,hnd⟩:=hW;have hA:DataW.TrodAll enc Tryz.prog W 0 (fun _=>true) true Tryz.f4.params.toList args.toList ds p:=hA0
 rw [Tryz.params4] at hA hval;obtain ⟨rfl,rfl⟩:=trodVars_none hV;have hB:=hA;obtain ⟨v0,d0,rfl,rfl,h0⟩:=trodAll_one hA;obtain ⟨dss,ha,hlen,hwl⟩:=args_data (H:=Go.Q.S.H) fits.ty plain4 _ _ _ _ hB (by decide) (fun j t v h h'=>hval j t v (by simpa using h) (by simpa using h'))
 obtain ⟨x0,rfl⟩:∃ x0,dss=[x0]:=by
  match dss,hlen with
  | [x0],_=>exact ⟨x0,rfl⟩
 obtain ⟨t0,e0,w0⟩:=hwl 0 _ _ rfl rfl;rw [ty22] at e0;obtain rfl:=Option.some.inj e0;refine (law_calls fits Tryz.func4 (by kernel_rfl) ki4 rfl rfl ha (b:=true) (by show rn _ _=_; simpa using law4 w0)).mono fun e W' ⟨he,bel⟩=>?_
 subst he;exact ⟨_,rfl,_,_,_,[],p,_,hW',trodAll_mk1 (shut_bool Tryz.underlying4 _),trodAll_below laid _ _ _ _ (read_of (by kernel_rfl)) hB bel (fun z hz=>hW'.lt z (by simp [hz])),rfl,bel.frame _,fun h=>by cases h⟩
theorem over:Rows.fnOpenRow.holds Tryz.pinned (OpenSpec.ofChange Rows.fnOpenSpec) :=
 OpenClaim.holds_of_wide 4 Tryz.f4 rfl rfl rfl rfl rfl rfl rfl ⟨rfl,rfl,rfl,rfl,rfl⟩ rfl rfl rfl rfl rfl named Tryz.func4 closed
  (of_decide_eq_true (by kernel_rfl)) (by unfold Func.isWrapper; first | (rw [H5 (by decide +kernel)]; kernel_rfl) | (rw [H6 (by decide +kernel)]; exact ⟨rfl,rfl⟩))
  (fun os started H enc _=>lifted os started H enc)
theorem proved:Rows.FnOpenSaid:=over
end Go.Proofs.YtmocpniibpnniaaGreat.fnOpen
namespace Go.Proofs.YtmocpniibpnniaaGreat
theorem fnOpen_holds:Rows.FnOpenSaid:=fnOpen.proved
end Go.Proofs.YtmocpniibpnniaaGreat
