/- The functions of this seat, as that machine runs them. -/
import Derived.Test.YtnjedojmdcpcaaaGreatfP7
set_option linter.unusedVariables false
set_option linter.unusedSimpArgs false
namespace Go.Q.S
open Go Go.Q Go.Proofs
theorem r308:∀ t:Tm,Wt t->rn ⟨308,0,0⟩ [.int t.k,.int t.n,.str t.s,.sl (t.as.map Tm.row)]=some (0,[.bool (lackB t)]):=Tm.ind fun t ih h=>by
 have hlm:=h.l;have hl:∀ n i,i+n=t.as.length->rn ⟨308,0,1⟩ [.sl (t.as.map Tm.row),.int (t.as.length:Int),.int (i:Int)]=bif lackBL (t.as.drop i) then some (0,[]) else some (1,[]):=by
  intro n;induction n with
  | zero =>
   intro i hi;obtain rfl:i=t.as.length:=by omega
   rw [e308_0_1];simp only [List.length_map,Int.ofNat_lt,Nat.lt_irrefl,decide_false,cond_false,List.drop_length,lackBL,cond_true]
  | succ n ih2 =>
   intro i hi;have hlt:i<t.as.length:=by omega
   rw [e308_0_1,List.drop_eq_getElem_cons hlt];have h1:=ih _ (List.getElem_mem hlt) (h.sub (List.getElem_mem hlt));simp only [List.length_map,Int.ofNat_lt,hlt,decide_true,cond_true,inbN,Int.toNat_natCast,rowAt_map hlt,wrap_succ hlt hlm,Tm.row_eq,nv0,nvS,dvI,dvB,dvS,dvL,Option.bind_some,h1,ih2 (i+1) (by omega),lackBL]
   cases lackB t.as[i] <;> simp
 have h0:=hl t.as.length 0 (by omega)
 simp only [List.drop_zero,Int.natCast_zero] at h0;rw [e308_0_0,lackB_eq];simp only [List.length_map,h0,r244,nv0,nvS,dvI,dvB,dvS,dvL,Option.bind_some];by_cases h2:t.k=2 <;> cases isB t.s <;> cases lackBL t.as <;> simp [h2] <;> rfl
theorem r301:∀ t:Tm,Wt t->rn ⟨301,0,0⟩ [.int t.k,.int t.n,.str t.s,.sl (t.as.map Tm.row)]=some (0,[.bool (!lackB t)]):=Tm.ind fun t ih h=>by
 have hlm:=h.l;have hl:∀ n i,i+n=t.as.length->rn ⟨301,0,1⟩ [.int (i:Int),.int t.k,.int t.n,.str t.s,.sl (t.as.map Tm.row)]=bif lackBL (t.as.drop i) then some (0,[.int t.k,.int t.n,.str t.s,.sl (t.as.map Tm.row)]) else some (1,[]):=by
  intro n;induction n with
  | zero =>
   intro i hi;obtain rfl:i=t.as.length:=by omega
   rw [e301_0_1];simp only [List.length_map,Int.ofNat_lt,Nat.lt_irrefl,decide_false,cond_false,List.drop_length,lackBL,cond_true]
  | succ n ih2 =>
   intro i hi;have hlt:i<t.as.length:=by omega
   rw [e301_0_1,List.drop_eq_getElem_cons hlt];have h1:=ih _ (List.getElem_mem hlt) (h.sub (List.getElem_mem hlt));simp only [List.length_map,Int.ofNat_lt,hlt,decide_true,cond_true,inbN,Int.toNat_natCast,rowAt_map hlt,wrap_succ hlt hlm,Tm.row_eq,nv0,nvS,dvI,dvB,dvS,dvL,Option.bind_some,h1,ih2 (i+1) (by omega),lackBL]
   cases lackB t.as[i] <;> simp
 have h0:=hl t.as.length 0 (by omega)
 simp only [List.drop_zero,Int.natCast_zero] at h0;rw [e301_0_0,lackB_eq,h0];cases lackBL t.as with
 | false=>cases (!(decide (t.k=2)&&isB t.s)) <;> rfl
 | true =>
  simp only [cond_true,nv0,nvS,dvI,dvB,dvS,dvL,Option.bind_some,Nat.beq_refl,cond_true,cond_false,r265];by_cases h2:t.k=2 <;> cases isB t.s <;> simp [h2]
theorem r166 (t:Tm) (h:t.nodes<=1048577) (ns:List ByteArray) (hn:ns.length<=maxLen):rn ⟨166,0,0⟩ [.int t.k,.int t.n,.str t.s,.sl (t.as.map Tm.row),.sl (ns.map sRow)]=some (0,[.bool (within t ns)]):=by
 have h1:=r252 t h;have h2:=r251 t.names ns (by have:=names_nodes t; omega) hn
 rw [e166_0_0];simp only [h1,nv0,nvS,dvI,dvB,dvS,dvL,Option.bind_some,h2,List.length_map];have h3:=wo_len t.names ns;have i1:(((wo t.names ns).length:Int)=0)↔(wo t.names ns).length=0:=by omega
 simp only [i1];rw [h3]; rfl
theorem r154 (t:Tm) (h:t.nodes<=1048577):rn ⟨154,0,0⟩ [.int t.k,.int t.n,.str t.s,.sl (t.as.map Tm.row)]=some (0,[.sl ((srtN t.names).map sRow)]):=by
 have hn:=names_nodes t;have h1:=r237 t [] h (by simp; omega)
 have h2:=r236 t.names (by omega)
 rw [e154_0_0];rw [List.nil_append] at h1;simp only [h1,nv0,nvS,dvI,dvB,dvS,dvL,Option.bind_some,h2]
theorem r324 (k:Int):rn ⟨324,0,0⟩ [.int k]=some (0,[.bool (decide (1<=k)&&decide (k<=3))]):=by
 rw [e324_0_0];cases decide (1<=k) <;> rfl
theorem r288 (so:Rows) (ops:List OpM) (ho:SigB ops) (vs:List VS) (hv:vs.length<=1099511627776) (ns:List ByteArray) (hn:ns.length<=maxLen) (hvn:∀ v∈vs,v.1∈ns) (gs:List Gu) (hg:gs.length<=1048576) (hgb:∀ g∈gs,GuB g):rn ⟨288,0,0⟩ [.sl so,.sl (ops.map OpM.row),.sl (gs.map Gu.row),.sl (vs.map VS.row),.sl (ns.map sRow)]=some (0,[.bool (gusOK ops vs gs)]):=by
 have hl:∀ n i,i+n=gs.length->rn ⟨288,0,1⟩ [.sl (gs.map Gu.row),.sl (vs.map VS.row),.sl (ns.map sRow),.sl (gs.map Gu.row),.int (gs.length:Int),.int (i:Int),.sl so,.sl (ops.map OpM.row)]=bif (gs.drop i).all (guOK ops vs) then some (0,[.sl (gs.map Gu.row)]) else some (1,[]):=by
  intro n;induction n with
  | zero =>
   intro i hi;obtain rfl:i=gs.length:=by omega
   rw [e288_0_1];simp only [List.length_map,Int.ofNat_lt,Nat.lt_irrefl,decide_false,cond_false,List.drop_length,List.all_nil,cond_true]
  | succ n ih =>
   intro i hi;have hlt:i<gs.length:=by omega
   rw [e288_0_1,List.drop_eq_getElem_cons hlt];have hb:=hgb _ (List.getElem_mem hlt);have hw:guOK ops vs gs[i]=true->_:=fun h=>guOK_within hvn h
   have h1:=r165 gs[i].l (Nat.le_trans hb.ln (by decide)) hb.wl
   have h2:=r165 gs[i].r (Nat.le_trans hb.rn (by decide)) hb.wr
   have h3:=r166 gs[i].l hb.ln ns hn;have h4:=r166 gs[i].r hb.rn ns hn;have h5:=r167 so ops ho vs hv gs[i].l hb.wl;have h6:=r167 so ops ho vs hv gs[i].r hb.wr;simp only [List.length_map,Int.ofNat_lt,hlt,decide_true,cond_true,inbN,Int.toNat_natCast,rowAt_map hlt,wrap_succ hlt (maxB (by omega)),Gu.row,nv0,nvS,dvI,dvB,dvS,dvL,Option.bind_some,h1,h2,h3,h4,h5,h6,r324,ih (i+1) (by omega),List.all_cons]
   unfold guOK at hw ⊢;generalize (decide (1<=gs[i].k)&&decide (gs[i].k<=3))=bk at hw ⊢;generalize gs[i].l.valid=b1 at hw ⊢;generalize gs[i].r.valid=b2 at hw ⊢;generalize within gs[i].l ns=w1 at hw ⊢;generalize within gs[i].r ns=w2 at hw ⊢;generalize sortT ops vs gs[i].l=s1 at hw ⊢;generalize sortT ops vs gs[i].r=s2 at hw ⊢;cases bk
   · rfl
   · cases b1
     · rfl
     · cases b2
       · rfl
       · by_cases q1:s1=e0
         · cases w1 <;> cases w2 <;> simp [q1]
         · by_cases q2:s1=s2
           · by_cases q3:gs[i].k=3
             · by_cases q4:s1=wordS
               · have:=hw (by simp [q1,<- q2,q3,q4])
                 simp [this.1,this.2,q1,<- q2,q3,q4]
               · cases w1 <;> cases w2 <;> simp [q1,<- q2,q3,q4]
             · have:=hw (by simp [q1,<- q2,q3])
               simp [this.1,this.2,q1,<- q2,q3]
           · cases w1 <;> cases w2 <;> simp [q1,q2]
 have h0:=hl gs.length 0 (by omega)
 simp only [List.drop_zero,Int.natCast_zero] at h0;rw [e288_0_0];simp only [List.length_map,h0,gusOK];cases gs.all (guOK ops vs) with
 | false=>rfl
 | true =>
  have i1:((gs.length:Int)<=2)↔gs.length<=2:=by omega
  simp only [cond_true,nv0,nvS,dvI,dvB,dvS,dvL,Option.bind_some,Nat.beq_refl,cond_true,cond_false,List.length_map,i1,Bool.true_and]
theorem r321 (k:Int):∃ s,rn ⟨321,0,0⟩ [.int k]=some (0,[.str s])/\decide (s=e0)=!(decide (1<=k)&&decide (k<=3)):=by
 rw [e321_0_0];simp only [rIn,nv0,nvS,dvI,dvB,dvS,dvL,Option.bind_some];by_cases h1:1<=k
 · by_cases h2:k<=3
   · obtain h | h | h:k=1\/k=2\/k=3:=by omega
     all_goals subst h; exact ⟨_,rfl,by decide⟩
   · refine ⟨e0,by simp [h1,h2],by simp [h1,h2]⟩
 · refine ⟨e0,by simp [h1],by simp [h1]⟩
theorem r279 (so:Rows) (ops:List OpM) (ho:SigB ops) (vs:List VS) (hv:vs.length<=1099511627776) (g:Gu) (hb:GuB g):rn ⟨279,0,0⟩ [.sl so,.sl (ops.map OpM.row),.int g.k,.int (g.l).k,.int (g.l).n,.str (g.l).s,.sl ((g.l).as.map Tm.row),.int (g.r).k,.int (g.r).n,.str (g.r).s,.sl ((g.r).as.map Tm.row),.sl (vs.map VS.row)]=some (0,[.bool (guOK ops vs g)]):=by
 have h1:=r152 g.l (Nat.le_trans hb.ln (by decide)) hb.wl
 have h2:=r152 g.r (Nat.le_trans hb.rn (by decide)) hb.wr
 have h5:=r156 so ops ho vs hv g.l hb.wl;have h6:=r156 so ops ho vs hv g.r hb.wr;obtain ⟨s,h7,h8⟩:=r321 g.k;rw [e279_0_0];simp only [nv0,nvS,dvI,dvB,dvS,dvL,Option.bind_some,h1,h2,h5,h6,h7,h8];unfold guOK;generalize sortT ops vs g.l=s1;generalize sortT ops vs g.r=s2;cases (decide (1<=g.k)&&decide (g.k<=3)) <;> cases g.l.valid <;> cases g.r.valid <;> try rfl
 by_cases q1:s1=e0
 · simp [q1]
 · by_cases q2:s2=s1
   · by_cases q3:g.k=3 <;> simp [q1,q2,q3]
   · have q2':¬ s1=s2:=fun e=>q2 e.symm
     simp [q1,q2,q2']
theorem r242 (so:Rows) (ops:List OpM) (ho:SigB ops) (r:RuM) (hb:RuB r):rn ⟨242,0,0⟩ [.sl so,.sl (ops.map OpM.row),.str r.n,.int (r.l).k,.int (r.l).n,.str (r.l).s,.sl ((r.l).as.map Tm.row),.int (r.r).k,.int (r.r).n,.str (r.r).s,.sl ((r.r).as.map Tm.row),.sl (r.g.map Gu.row)]=some (0,[.bool (rulOK ops r)]):=by
 have h1:=r306 r.n hb.n;have h2:=r165 r.l (Nat.le_trans hb.ln (by decide)) hb.wl
 have h3:=r308 r.l hb.wl;have h4:=r165 r.r (Nat.le_trans hb.rn (by decide)) hb.wr
 have h5:=r243 so ops ho r.l.s;have h7:=r252 r.l hb.ln;have hnl:=names_nodes r.l;have hln:=hb.ln;rw [e242_0_0];simp only [h1,h2,h3,h4,h5,nv0,nvS,dvI,dvB,dvS,dvL,Option.bind_some];unfold rulOK;cases isNm r.n <;> try rfl
 cases r.l.valid <;> try rfl
 by_cases q:r.l.k=2
 · simp only [q,decide_true,Bool.not_true,cond_false,Bool.true_and]
   cases lackB r.l <;> try rfl
   cases r.r.valid <;> try rfl
   cases hf:findO ops r.l.s with
   | none=>rfl
   | some o =>
    have h6:=r309 so ops ho r.l hb.wl hb.ln o.r;simp only [q] at h6 h7;simp only [foRes,nv0,nvS,dvI,dvB,dvS,dvL,Option.bind_some,h6,h7,Bool.not_true,cond_false,Bool.true_and];cases hi:infV ops r.l o.r with
    | none=>rfl
    | some vs =>
     have hvl:=infV_len hi;have h8:=r167 so ops ho vs (by omega) r.r hb.wr
     have h9:=r166 r.r hb.rn r.l.names (maxB (by omega))
     have h10:=r288 so ops ho vs (by omega) r.l.names (maxB (by omega)) (infV_names hi) r.g hb.g hb.ga
     simp only [infVR,nv0,nvS,dvI,dvB,dvS,dvL,Option.bind_some,h8,h9,h10,Bool.not_true,cond_false];by_cases q2:sortT ops vs r.r=o.r
     · cases within r.r r.l.names <;> simp [q2]
     · simp [q2]
 · simp [q]
theorem r227 (so:Rows) (ops:List OpM) (ho:SigB ops) (r:RuM) (hb:RuB r):rn ⟨227,0,0⟩ [.sl so,.sl (ops.map OpM.row),.str r.n,.int (r.l).k,.int (r.l).n,.str (r.l).s,.sl ((r.l).as.map Tm.row),.int (r.r).k,.int (r.r).n,.str (r.r).s,.sl ((r.r).as.map Tm.row),.sl (r.g.map Gu.row)]=some (0,[.bool (rulOK ops r)]):=by
 have h1:=r300 r.n hb.n;have h2:=r152 r.l (Nat.le_trans hb.ln (by decide)) hb.wl
 have h3:=r301 r.l hb.wl;have h4:=r152 r.r (Nat.le_trans hb.rn (by decide)) hb.wr
 have h5:=r239 so ops ho r.l.s;have h7:=r154 r.l hb.ln;have h9:=r154 r.r hb.rn;have hnl:=names_nodes r.l;have hnr:=names_nodes r.r;have hsl:=srtN_len r.l.names;have hsr:=srtN_len r.r.names;have hln:=hb.ln;have hrn:=hb.rn;have hgl:=hb.g;have h10:=r153 (srtN r.r.names) (srtN r.l.names) (by omega) (maxB (by omega))
 have hl:∀ vs:List VS,vs.length<=1099511627776->∀ n i,i+n=r.g.length->rn ⟨227,0,1⟩ [.int (i:Int),.sl so,.sl (ops.map OpM.row),.str r.n,.int (r.l).k,.int (r.l).n,.str (r.l).s,.sl ((r.l).as.map Tm.row),.int (r.r).k,.int (r.r).n,.str (r.r).s,.sl ((r.r).as.map Tm.row),.sl (r.g.map Gu.row),.sl (vs.map VS.row)]=bif (r.g.drop i).all (guOK ops vs) then some (0,[]) else some (1,[]):=by
  intro vs hv n;induction n with
  | zero =>
   intro i hi;obtain rfl:i=r.g.length:=by omega
   rw [e227_0_1];simp only [List.length_map,Int.ofNat_lt,Nat.lt_irrefl,decide_false,cond_false,List.drop_length,List.all_nil,cond_true]
  | succ n ih =>
   intro i hi;have hlt:i<r.g.length:=by omega
   rw [e227_0_1,List.drop_eq_getElem_cons hlt];have h1:=r279 so ops ho vs hv r.g[i] (hb.ga _ (List.getElem_mem hlt));simp only [List.length_map,Int.ofNat_lt,hlt,decide_true,cond_true,inbN,Int.toNat_natCast,rowAt_map hlt,wrap_succ hlt (maxB (by omega)),Gu.row,nv0,nvS,dvI,dvB,dvS,dvL,Option.bind_some,h1,ih (i+1) (by omega),List.all_cons]
   cases guOK ops vs r.g[i] <;> simp
 rw [e227_0_0];simp only [h1,h2,h3,h4,h5,nv0,nvS,dvI,dvB,dvS,dvL,Option.bind_some,List.length_map];unfold rulOK;cases isNm r.n <;> try rfl
 cases r.l.valid <;> try rfl
 by_cases q:r.l.k=2
 · simp only [q,decide_true,Bool.not_true,cond_false,Bool.true_and,Bool.not_not]
   cases r.r.valid
   · cases lackB r.l <;> rfl
   · cases lackB r.l <;> try rfl
     simp only [Bool.not_true,cond_false,Bool.true_and];by_cases q5:r.g.length<=2
     · have q5':¬((2:Int)<(r.g.length:Int)):=by omega
       cases hf:findO ops r.l.s with
       | none =>
        have h6:=r302 so ops ho r.l hb.wl hb.ln e0;have:infV ops r.l e0=none:=by unfold infV; cases infT ops r.l e0 [] <;> simp
        rw [this] at h6;simp only [q] at h6;simp only [foRes,nv0,nvS,dvI,dvB,dvS,dvL,Option.bind_some,h6,q5',decide_false,cond_false,infVR,Bool.not_false,cond_true]
       | some o =>
        have h6:=r302 so ops ho r.l hb.wl hb.ln o.r;simp only [q] at h6 h7 hl;simp only [foRes,nv0,nvS,dvI,dvB,dvS,dvL,Option.bind_some,h6,q5',decide_false,cond_false];cases hi:infV ops r.l o.r with
        | none=>rfl
        | some vs =>
         have hvl:=infV_len hi;have h8:=r156 so ops ho vs (by omega) r.r hb.wr
         have h11:=hl vs (by omega) r.g.length 0 (by omega)
         simp only [List.drop_zero,Int.natCast_zero] at h11;simp only [infVR,nv0,nvS,dvI,dvB,dvS,dvL,Option.bind_some,h8,h7,h9,h10,List.length_map,h11,Bool.not_true,cond_false];by_cases q2:sortT ops vs r.r=o.r
         · have hw:=wo_srt r.r r.l
           cases hw2:within r.r r.l.names with
           | true =>
            rw [hw2] at hw;have:(wo (srtN r.r.names) (srtN r.l.names)).length=0:=hw.2 rfl;simp only [q2,this,decide_true,Bool.not_true,cond_false,Int.natCast_zero,Int.lt_irrefl,decide_false,gusOK,q5,Bool.and_true,Bool.true_and];cases r.g.all (guOK ops vs) <;> rfl
           | false =>
            rw [hw2] at hw;have:¬(wo (srtN r.r.names) (srtN r.l.names)).length=0:=fun h=>by have:=hw.1 h; simp at this
            have:0<(wo (srtN r.r.names) (srtN r.l.names)).length:=by omega
            simp [q2,this]
         · simp [q2]
     · have q5':((2:Int)<(r.g.length:Int)):=by omega
       simp only [q5',decide_true,cond_true,gusOK,q5,decide_false,Bool.and_false];cases findO ops r.l.s with
       | none=>rfl
       | some o =>
        dsimp only;cases infV ops r.l o.r <;> rfl
 · cases r.r.valid <;> simp [q]
end Go.Q.S
