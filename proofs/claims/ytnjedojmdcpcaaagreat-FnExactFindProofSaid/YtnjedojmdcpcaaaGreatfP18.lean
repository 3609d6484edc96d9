/- The functions of this seat, as that machine runs them. -/
import Derived.Test.YtnjedojmdcpcaaaGreatfP17
set_option linter.unusedVariables false
set_option linter.unusedSimpArgs false
namespace Go.Q.S
open Go Go.Q Go.Proofs
theorem b63 {n:Nat} (h:n<=4194304):Nat.ble (n+1) M63=true:=nb (by omega)
theorem carLoopI (l u r t:Tm) (hl:l.nodes<=60) (xr:Int) (xat gs:Rows) (nm:ByteArray) (ps:List (List Int)) (hps:ps.length<=60) (hpl:∀ p∈ps,p.length<=1048576):∀ n i (acc:List Bnd),i+n=ps.length->acc.length<=i →
 rn ⟨175,0,1⟩ [.int (ps.length:Int),.int (i:Int),.int t.k,.int t.n,.str t.s,.sl (t.as.map Tm.row),.int xr,.sl xat,.int 0,.int 0,.str e0,.str nm,.int l.k,.int l.n,.str l.s,.sl (l.as.map Tm.row),.int r.k,.int r.n,.str r.s,.sl (r.as.map Tm.row),.sl gs,.int u.k,.int u.n,.str u.s,.sl (u.as.map Tm.row),.sl (acc.map Bnd.row),.sl (ps.map pRow),.sl []]=some (0,[.int t.k,.int t.n,.str t.s,.sl (t.as.map Tm.row),.int xr,.sl xat,.int 0,.int 0,.str e0,.str nm,.int l.k,.int l.n,.str l.s,.sl (l.as.map Tm.row),.int r.k,.int r.n,.str r.s,.sl (r.as.map Tm.row),.sl gs,.sl ((acc++(ps.drop i).filterMap (cB1 l u)).map Bnd.row),.sl []]):=by
 intro n;induction n with
 | zero =>
  intro i acc hi _;obtain rfl:i=ps.length:=by omega
  rw [e175_0_1];simp only [List.length_map,Int.ofNat_lt,Nat.lt_irrefl,decide_false,cond_false,List.drop_length,List.filterMap_nil,List.append_nil]
 | succ n ih =>
  intro i acc hi ha;have hlt:i<ps.length:=by omega
  have hp:=hpl _ (List.getElem_mem hlt);have h1:=atI l ps[i] hp;have h2:=atI u ps[i] hp;have b1:Nat.ble (acc.length+1) M63=true:=b63 (by omega)
  rw [List.drop_eq_getElem_cons hlt,List.filterMap_cons,e175_0_1];simp only [List.length_map,Int.ofNat_lt,hlt,decide_true,cond_true,inbN,Int.toNat_natCast,rowAt_map hlt,wrap_succ hlt (maxB (by omega)),pRow,nv0,nvS,dvI,dvB,dvS,dvL,Option.bind_some,h1,h2,List.length_cons,List.length_nil,Nat.zero_add,b1]
  by_cases hk:(atO l ps[i]).k=1
  · have e:cB1 l u ps[i]=some ((atO l ps[i]).s,atO u ps[i]):=by rw [cB1,if_pos hk]
    have h3:=ih (i+1) (acc++[((atO l ps[i]).s,atO u ps[i])]) (by omega) (by simp; omega)
    simp only [List.map_append,List.map_cons,List.map_nil,bd_row,List.append_assoc,List.cons_append,List.nil_append,pRow] at h3;simp only [hk,e,decide_true,cond_true,List.append_assoc,List.map_append,List.map_cons,List.cons_append,List.nil_append,bd_row];exact h3
  · have e:cB1 l u ps[i]=none:=by rw [cB1,if_neg hk]
    have h3:=ih (i+1) acc (by omega) (by omega)
    simp only [hk,e,decide_false,cond_false];exact h3
theorem carI (d:DfM) (hd:DfG d) (t:Tm) (hw:Wt t) (hn:t.nodes<=60) (i:Nat) (hi:i<d.ru.length) (p:List Int) (hp:p.length<=60) (hat:∃ u,atT t p=some u):rn ⟨175,0,0⟩ [.sl (d.so.map sRow),.sl (d.op.map OpM.row),.sl (d.ru.map RuM.row),.sl (d.st.map StM.row),.int t.k,.int t.n,.str t.s,.sl (t.as.map Tm.row),.int (i:Int),.sl (p.map iRow)]=some (0,[.int (bT d t (some (i,p))).k,.int (bT d t (some (i,p))).n,.str (bT d t (some (i,p))).s,.bool (carT d t (i,p)).valid,.sl ((bT d t (some (i,p))).as.map Tm.row)]):=by
 have hr:=hd.ru (List.getElem_mem hi);have hln:=valid_nodes hr.lv;have hrn:=valid_nodes hr.rv;obtain ⟨u,hu⟩:=hat;have hpl:=posT_len d.ru[i].l [];have hun:=atO_nodes t p (by decide) hn
 have hbn:∀ b∈carB d.ru[i].l (atO t p),b.2.nodes<=60:=carB_mem (P:=fun t=>t.nodes<=60) fun q=>atO_nodes (atO t p) q (by decide) hun
 have hbs:∀ b∈carB d.ru[i].l (atO t p),Small b.2:=fun b hb=>small_of _ (by have:=hbn b hb; omega)
 have hbl:(carB d.ru[i].l (atO t p)).length<=60:=Nat.le_trans (List.length_filterMap_le ..) (by omega)
 have a1:=aS_nodesM (m:=60) (by decide) hbn d.ru[i].r
 have a2:=rW_nodes (aS (carB d.ru[i].l (atO t p)) d.ru[i].r);have a3:=put_nodes (rW (aS (carB d.ru[i].l (atO t p)) d.ru[i].r)) p t;have a5:t.nodes*(p.length+1)<=60*61:=Nat.mul_le_mul hn (by omega)
 have e2:carT d t (i,p)=rW (putT t p (aS (carB d.ru[i].l (atO t p)) d.ru[i].r)):=by
  simp only [carT,List.getElem?_eq_getElem hi]
 obtain ⟨c1,c2⟩:=carT_b hd hw hn (x:=(i,p)) hp;have h1:=atI t p (by omega)
 have h2:=r261 d.ru[i].l (by omega)
 have h3:=carLoopI d.ru[i].l (atO t p) d.ru[i].r t hln (i:Int) (p.map iRow) (d.ru[i].g.map Gu.row) d.ru[i].n (posT d.ru[i].l []) (by omega) (fun q hq=>by have:=posT_mem d.ru[i].l [] q hq; simp at this; omega) _ 0 [] (Nat.zero_add _) (Nat.le_refl _)
 rw [hpl] at h3;simp only [List.drop_zero,List.nil_append,Int.natCast_zero,List.map_nil] at h3;have h4:=r198 _ (by omega) hbs d.ru[i].r (small_of _ (by omega))
 have h5:=r197 (aS (carB d.ru[i].l (atO t p)) d.ru[i].r) (small_of _ (by omega))
 have h6:=r262 (rW (aS (carB d.ru[i].l (atO t p)) d.ru[i].r)) p t u (by omega) (by omega) hu
 have h7:=r197 (putT t p (rW (aS (carB d.ru[i].l (atO t p)) d.ru[i].r))) (small_of _ (by omega))
 rw [rW_put,<- e2] at h7;have h8:=r165 (carT d t (i,p)) (by omega) c1
 unfold carB at h4 h5 h6 h7;rw [e175_0_0];simp only [h1,h2,nv0,nvS,dvI,dvB,dvS,dvL,Option.bind_some,inbN,List.length_map,hi,decide_true,cond_true,Int.toNat_natCast,rowAt_map hi,RuM.row,hpl,h3,Nat.beq_refl,cond_true,cond_false,h4,h5,h6,h7,h8];have hb:bT d t (some (i,p))=if (carT d t (i,p)).valid=true then carT d t (i,p) else tm0:=rfl
 rw [hb];cases (carT d t (i,p)).valid <;> rfl
theorem r272 (l u:Tm) (hl:l.nodes<=60) (hu:u.nodes<=60):rn ⟨272,0,0⟩ [.int l.k,.int l.n,.str l.s,.sl (l.as.map Tm.row),.int u.k,.int u.n,.str u.s,.sl (u.as.map Tm.row)]=some (0,[.sl ((carU l u (posT l []) []).map Bnd.row)]):=by
 have hpl:=posT_len l [];have hps:∀ p∈posT l [],p.length<=1048576:=fun q hq=>by have:=posT_mem l [] q hq; simp at this; omega
 have h2:=r319 l (by omega)
 have hlp:∀ n i (acc:List Bnd),i+n=(posT l []).length->acc.length<=i->(∀ b∈acc,Small b.2)->rn ⟨272,0,1⟩ [.int (i:Int),.int l.k,.int l.n,.str l.s,.sl (l.as.map Tm.row),.int u.k,.int u.n,.str u.s,.sl (u.as.map Tm.row),.sl (acc.map Bnd.row),.sl ((posT l []).map pRow)]=some (0,[.sl ((carU l u ((posT l []).drop i) acc).map Bnd.row)]):=by
  generalize posT l []=ps at hpl hps ⊢;intro n;induction n with
  | zero =>
   intro i acc hi _ _;obtain rfl:i=ps.length:=by omega
   rw [e272_0_1];simp only [List.length_map,Int.ofNat_lt,Nat.lt_irrefl,decide_false,cond_false,List.drop_length,carU]
  | succ n ih =>
   intro i acc hi ha hs;have hlt:i<ps.length:=by omega
   have hp:=hps _ (List.getElem_mem hlt);have h1:=atS l (by omega) ps[i] hp
   have h2:=atS u (by omega) ps[i] hp
   have b1:Nat.ble (acc.length+1) M63=true:=b63 (by omega)
   have hun:=atO_nodes u ps[i] (by decide) hu
   rw [List.drop_eq_getElem_cons hlt,e272_0_1];simp only [carU,List.length_map,Int.ofNat_lt,hlt,decide_true,cond_true,inbN,Int.toNat_natCast,rowAt_map hlt,wrap_succ hlt (maxB (by omega)),pRow,nv0,nvS,dvI,dvB,dvS,dvL,Option.bind_some,h1,h2,List.length_cons,List.length_nil,Nat.zero_add,b1]
   have h4:=ih (i+1) acc (by omega) (by omega) hs
   by_cases hk:(atO l ps[i]).k=1
   · have h3:=ih (i+1) (acc++[((atO l ps[i]).s,atO u ps[i])]) (by omega) (by simp; omega) (fun b hb=>by
      rcases List.mem_append.1 hb with hb | hb
      · exact hs b hb
      · simp only [List.mem_singleton] at hb; subst hb; exact small_of _ (show (atO u ps[i]).nodes<=1048577 by omega))
     simp only [List.map_append,List.map_cons,List.map_nil,bd_row,pRow] at h3 h4;simp only [hk,decide_true,cond_true,bd_row];rcases r318 acc (by omega) (atO l ps[i]).s with ⟨e,h5⟩|⟨j,hj,e,h5⟩
     · simp only [h5,nv0,nvS,dvI,dvB,dvS,dvL,Option.bind_some,e,show decide ((-1:Int)<0)=true from rfl,cond_true,and_self,if_true]
       exact h3
     · have q:¬((j:Int)<0):=by omega
       simp only [h5,nv0,nvS,dvI,dvB,dvS,dvL,Option.bind_some,e,q,decide_false,cond_false,reduceCtorEq,and_false,if_false];exact h4
   · simp only [hk,decide_false,cond_false,false_and,if_false]
     exact h4
 have h3:=hlp _ 0 [] (Nat.zero_add _) (Nat.le_refl _) (by simp)
 simp only [List.drop_zero,Int.natCast_zero,List.map_nil] at h3;rw [e272_0_0];simp only [h2,nv0,nvS,dvI,dvB,dvS,dvL,Option.bind_some,h3,Nat.beq_refl,cond_true,cond_false]
theorem r189 (d:DfM) (hd:DfG d) (v cs:Rows) (t:Tm) (hw:Wt t) (hn:t.nodes<=60) (i:Nat) (hi:i<d.ru.length) (p:List Int) (hp:p.length<=60) (hat:∃ u,atT t p=some u):rn ⟨189,0,0⟩ [.sl (d.so.map sRow),.sl (d.op.map OpM.row),.sl (d.ru.map RuM.row),.sl (d.st.map StM.row),.sl v,.int t.k,.int t.n,.str t.s,.sl (t.as.map Tm.row),.sl cs,.int (i:Int),.sl (p.map iRow)]=some (0,[.int (carT d t (i,p)).k,.int (carT d t (i,p)).n,.str (carT d t (i,p)).s,.sl ((carT d t (i,p)).as.map Tm.row)]):=by
 have hr:=hd.ru (List.getElem_mem hi);have hln:=valid_nodes hr.lv;have hrn:=valid_nodes hr.rv;obtain ⟨u,hu⟩:=hat;have hpl:=posT_len d.ru[i].l [];have hun:=atO_nodes t p (by decide) hn
 have hbn:∀ b∈carU d.ru[i].l (atO t p) (posT d.ru[i].l []) [],b.2.nodes<=60:=carU_mem (P:=fun t=>t.nodes<=60) (fun q=>atO_nodes (atO t p) q (by decide) hun) _ [] (by simp)
 have hbs:∀ b∈carU d.ru[i].l (atO t p) (posT d.ru[i].l []) [],Small b.2:=fun b hb=>small_of _ (by have:=hbn b hb; omega)
 have hbl:=carU_len d.ru[i].l (atO t p) (posT d.ru[i].l []) [];have a1:=aS_nodesM (m:=60) (by decide) hbn d.ru[i].r
 have a3:=put_nodes (aS (carU d.ru[i].l (atO t p) (posT d.ru[i].l []) []) d.ru[i].r) p t;have a5:t.nodes*(p.length+1)<=60*61:=Nat.mul_le_mul hn (by omega)
 have e2:carT d t (i,p)=rW (putT t p (aS (carU d.ru[i].l (atO t p) (posT d.ru[i].l []) []) d.ru[i].r)):=by
  simp only [carT,List.getElem?_eq_getElem hi,carU_aS]
 have h1:=atS t (by omega) p (by omega)
 have h2:=r272 d.ru[i].l (atO t p) hln hun;have h4:=r185 _ (by simp at hbl; omega) hbs d.ru[i].r (small_of _ (by omega))
 have h6:=r271 (aS (carU d.ru[i].l (atO t p) (posT d.ru[i].l []) []) d.ru[i].r) (by omega) p t u (by omega) (by omega) hu
 have h7:=r184 (putT t p (aS (carU d.ru[i].l (atO t p) (posT d.ru[i].l []) []) d.ru[i].r)) (small_of _ (by omega))
 rw [<- e2] at h7;rw [e189_0_0];simp only [h1,nv0,nvS,dvI,dvB,dvS,dvL,Option.bind_some,inbN,List.length_map,hi,decide_true,cond_true,Int.toNat_natCast,rowAt_map hi,RuM.row,h2,h4,h6,h7]
theorem r107 (d:DfM) (hd:DfG d) (v:List ByteArray) (hv:v.length<=1048576) (cs:Rows) (t:Tm) (hw:Wt t) (hn:t.nodes<=60) (x:Bk) (hx:BkG d t x):rn ⟨107,0,0⟩ [.sl (d.so.map sRow),.sl (d.op.map OpM.row),.sl (d.ru.map RuM.row),.sl (d.st.map StM.row),.sl (v.map sRow),.int t.k,.int t.n,.str t.s,.sl (t.as.map Tm.row),.sl cs,.int (bR x),.bool x.isSome,.sl ((bP x).map iRow)]=some (0,[.int (bK d t x),.int (bR x),.int (bT d t x).k,.int (bT d t x).n,.str (bT d t x).s,.sl ((bP x).map iRow),.sl (v.map sRow),.sl ((bT d t x).as.map Tm.row),.sl []]):=by
 have b1:Nat.ble v.length M63=true:=by simpa using nb (n:=v.length) (m:=0) (by omega)
 have h1:=r188 t (small_of t (by omega))
 rw [e107_0_0];simp only [List.length_nil,Nat.zero_add,List.length_map,b1,cond_true,h1,nv0,nvS,dvI,dvB,dvS,dvL,Option.bind_some,List.nil_append];cases x with
 | none=>rfl
 | some y =>
  obtain ⟨y1,y2,y3⟩:=hx.i y rfl;have h2:=r189 d hd (v.map sRow) cs t hw hn y.1 y1 y.2 y2 y3;obtain ⟨c1,c2⟩:=carT_b hd hw hn (x:=y) y2;have h3:=r152 (carT d t y) (by omega) c1
  simp only [bR,bP,Option.isSome_some,Bool.not_true,cond_false,h2,nv0,nvS,dvI,dvB,dvS,dvL,Option.bind_some,h3];have hb:bT d t (some y)=if (carT d t y).valid=true then carT d t y else tm0:=rfl
  have hk:bK d t (some y)=if (carT d t y).valid=true then 2 else 3:=rfl
  rw [hb,hk];cases (carT d t y).valid <;> rfl
theorem fndB_drop (out:List (Bk × List Int)) (x:Bk):fndI out x=match (out.drop 0).findIdx? (fun b=>decide (b.1=x)) with | some i=>((0+i:Nat):Int) | none=>-1:=by
 unfold fndI fndB;rw [List.drop_zero];cases out.findIdx? fun b=>decide (b.1=x) with
 | none=>rfl
 | some i=>simp
theorem fndBI (d:DfM) (v:List ByteArray) (t:Tm) (out:List (Bk × List Int)) (ho:out.length<=1048576) (hp:∀ b∈out,(bP b.1).length<=1048576) (x:Bk):∃ w1 w2 w3,rn ⟨171,0,0⟩ [.sl (out.map (brRow d v t)),.bool x.isSome,.int (bR x),.sl ((bP x).map iRow)]=some (0,[.int (fndI out x),.bool w1,.int w2,.sl w3])/\w1=x.isSome/\w2=bR x/\w3=(bP x).map iRow:=by
 have hlp:∀ n i,i+n=out.length->rn ⟨171,0,1⟩ [.sl (out.map (brRow d v t)),.int (out.length:Int),.int (i:Int),.bool x.isSome,.int (bR x),.sl ((bP x).map iRow)]=match (out.drop i).findIdx? (fun b=>decide (b.1=x)) with
  | some j=>some (1,[.int ((i+j:Nat):Int),.bool x.isSome,.int (bR x),.sl ((bP x).map iRow)])
  | none=>some (0,[.bool x.isSome,.int (bR x),.sl ((bP x).map iRow)]):=by
  intro n;induction n with
  | zero =>
   intro i hi;obtain rfl:i=out.length:=by omega
   rw [e171_0_1];simp only [List.length_map,Int.ofNat_lt,Nat.lt_irrefl,decide_false,cond_false,List.drop_length,List.findIdx?_nil]
  | succ n ih =>
   intro i hi;have hlt:i<out.length:=by omega
   have h2:=r173 (bR out[i].1) (bR x) (bP out[i].1) (bP x) (hp _ (List.getElem_mem hlt));have h1:rn ⟨172,0,0⟩ [.int (bK d t out[i].1),.int (bR out[i].1),.sl ((bP out[i].1).map iRow),.sl (v.map sRow),.int (bT d t out[i].1).k,.int (bT d t out[i].1).n,.str (bT d t out[i].1).s,.sl ((bT d t out[i].1).as.map Tm.row),.sl (out[i].2.map iRow),.bool x.isSome,.int (bR x),.sl ((bP x).map iRow)]=some (0,[.bool (decide (out[i].1=x)),.bool x.isSome,.int (bR x),.sl ((bP x).map iRow)]):=by
    rw [e172_0_0,<- bk_eq d t];simp only [h2,nv0,nvS,dvI,dvB,dvS,dvL,Option.bind_some];cases (decide (bK d t out[i].1=1)==!x.isSome) <;> rfl
   rw [drop_find _ _ hlt,e171_0_1];simp only [List.length_map,Int.ofNat_lt,hlt,decide_true,cond_true,inbN,Int.toNat_natCast,rowAt_map hlt,wrap_succ hlt (maxB (by omega)),brRow,nv0,nvS,dvI,dvB,dvS,dvL,Option.bind_some,h1]
   have h3:=ih (i+1) (by omega)
   cases decide (out[i].1=x) with
   | true=>rfl
   | false =>
    simp only [cond_false,Bool.false_eq_true,if_false,h3];cases (out.drop (i+1)).findIdx? (fun b=>decide (b.1=x)) with
    | none=>rfl
    | some j=>simp only [Option.map_some,show i+1+j=i+(j+1) by omega]
 have h1:=hlp out.length 0 (Nat.zero_add _);rw [Int.natCast_zero] at h1;rw [e171_0_0,fndB_drop];simp only [List.length_map,h1];cases (out.drop 0).findIdx? (fun b=>decide (b.1=x)) with
 | none=>exact ⟨_,_,_,rfl,rfl,rfl,rfl⟩
 | some j=>exact ⟨_,_,_,rfl,rfl,rfl,rfl⟩
theorem r106 (d:DfM) (v:List ByteArray) (t:Tm) (out:List (Bk × List Int)) (ho:out.length<=1048576) (hp:∀ b∈out,(bP b.1).length<=1048576) (x:Bk):rn ⟨106,0,0⟩ [.sl (out.map (brRow d v t)),.int (bR x),.sl ((bP x).map iRow),.bool x.isSome]=some (0,[.int (fndI out x)]):=by
 have hlp:∀ n i,i+n=out.length->rn ⟨106,0,1⟩ [.sl (out.map (brRow d v t)),.bool x.isSome,.int (i:Int),.int (bR x),.sl ((bP x).map iRow)]=match (out.drop i).findIdx? (fun b=>decide (b.1=x)) with
  | some j=>some (1,[.int ((i+j:Nat):Int)])
  | none=>some (0,[]):=by
  intro n;induction n with
  | zero =>
   intro i hi;obtain rfl:i=out.length:=by omega
   rw [e106_0_1];simp only [List.length_map,Int.ofNat_lt,Nat.lt_irrefl,decide_false,cond_false,List.drop_length,List.findIdx?_nil]
  | succ n ih =>
   intro i hi;have hlt:i<out.length:=by omega
   have h2:=r187 (bP out[i].1) (bP x) (hp _ (List.getElem_mem hlt));have h3:=ih (i+1) (by omega)
   have hno:∀ y,x=some y->¬ bK d t (some y)=1:=fun y _=>by
    show ¬(if (carT d t y).valid=true then (2:Int) else 3)=1
    by_cases q:(carT d t y).valid=true <;> simp [q]
   have h4:(match (match (out.drop (i+1)).findIdx? (fun b=>decide (b.1=x)) with | some j=>some (j+1) | none=>none) with | some j=>some (1,[D.int ((i+j:Nat):Int)]) | none=>some (0,[]))=rn ⟨106,0,1⟩ [.sl (out.map (brRow d v t)),.bool x.isSome,.int ((i+1:Nat):Int),.int (bR x),.sl ((bP x).map iRow)]:=by
    rw [ih (i+1) (by omega)]
    cases (out.drop (i+1)).findIdx? (fun b=>decide (b.1=x)) with
    | none=>rfl
    | some j=>simp only [show i+1+j=i+(j+1) by omega]
   have h5:(bif !(x.isSome==decide (bK d t out[i].1=1)) then bif !x.isSome then some (1,[D.int (i:Int)]) else bif decide (bR out[i].1=bR x) then bif decide (bP out[i].1=bP x) then some (1,[.int (i:Int)]) else rn ⟨106,0,1⟩ [.sl (out.map (brRow d v t)),.bool x.isSome,.int ((i+1:Nat):Int),.int (bR x),.sl ((bP x).map iRow)] else rn ⟨106,0,1⟩ [.sl (out.map (brRow d v t)),.bool x.isSome,.int ((i+1:Nat):Int),.int (bR x),.sl ((bP x).map iRow)] else rn ⟨106,0,1⟩ [.sl (out.map (brRow d v t)),.bool x.isSome,.int ((i+1:Nat):Int),.int (bR x),.sl ((bP x).map iRow)])=match (if decide (out[i].1=x)=true then some 0 else ((out.drop (i+1)).findIdx? (fun b=>decide (b.1=x))).map (·+1)) with
    | some j=>some (1,[.int ((i+j:Nat):Int)])
    | none=>some (0,[]):=by
    rw [<- bk_eq d t out[i].1 x];rw [<- h4];generalize (out.drop (i+1)).findIdx? (fun b=>decide (b.1=x))=F
    generalize hg:out[i].1=y;cases x with
    | none =>
     cases y with
     | none=>simp [bK,bR,bP]
     | some z =>
      have:¬ bK d t (some z)=1:=by
       show ¬(if (carT d t z).valid=true then (2:Int) else 3)=1
       by_cases q:(carT d t z).valid=true <;> simp [q]
      simp only [this,decide_false,Option.isSome_none];cases F <;> rfl
    | some w =>
     cases y with
     | none=>cases F <;> simp [bK]
     | some z =>
      have:¬ bK d t (some z)=1:=by
       show ¬(if (carT d t z).valid=true then (2:Int) else 3)=1
       by_cases q:(carT d t z).valid=true <;> simp [q]
      simp only [this,decide_false,Option.isSome_some];cases decide (bR (some z)=bR (some w)) <;> cases decide (bP (some z)=bP (some w)) <;> cases F <;> rfl
   rw [drop_find _ _ hlt,<- h5,e106_0_1];simp only [List.length_map,Int.ofNat_lt,hlt,decide_true,cond_true,inbN,Int.toNat_natCast,rowAt_map hlt,wrap_succ hlt (maxB (by omega)),brRow,nv0,nvS,dvI,dvB,dvS,dvL,Option.bind_some,h2]
 have h1:=hlp out.length 0 (Nat.zero_add _);rw [Int.natCast_zero] at h1;rw [e106_0_0,fndB_drop];simp only [h1];cases (out.drop 0).findIdx? (fun b=>decide (b.1=x)) <;> rfl
end Go.Q.S
