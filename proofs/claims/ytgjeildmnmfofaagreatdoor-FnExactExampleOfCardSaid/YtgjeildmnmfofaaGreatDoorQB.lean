/- A machine over trees of data that runs the given code, and the proof that what it answers holds of the program, part 2. -/
import Derived.Test.YtgjeildmnmfofaaGreatDoorQA
import Derived.Laws.StructEq
import Derived.Laws.Slices
import Derived.WideLaws
import Derived.Lib.SliceRun
import Derived.Deep.AppendSrc
import Derived.Laws.AppendOwn
import Derived.Scope
set_option linter.unusedVariables false
set_option linter.unusedSimpArgs false
open Array renaming getElem?_eq_some_iff->E5,getElem?_eq_none->F5,length_toList->G7
open Bool renaming and_eq_true->B4,not_eq_true'->C5
open List renaming mem_cons_self->B5,mem_cons_of_mem->B6,mem_append->B8,getElem?_eq_some_iff->B9,map_cons->C0,mem_cons->C1,nodup_cons->C4,all_eq_true->C6,nodup_append->C7,append_assoc->C9,mem_map->D0,getElem?_append_left->D2,getElem?_append_right->D3,length_eq_zero_iff->D4,getElem?_eq_getElem->D5,getElem?_drop->D6,getElem?_take->D7,mem_singleton->E1,mem_flatMap->E4,length_append->E6,ext_getElem?->F1,take_succ_cons->F8,map_congr_left->F9,map_map->G5,mem_of_mem_drop->G9,mem_append_left->J0,mem_of_mem_take->J6,length_pos_iff->J7,getD->K1,drop_drop->N4,cons->N7
open Nat renaming beq->C2,mul_le_mul_right->C3,le_refl->D1,add_mul->E0,le_of_ble_eq_true->E3,blt->E7,zero_add->G8,ble->J1
open Option renaming some->B7,bind_eq_some_iff->E2,isSome_iff_exists->F6,getD_some->K2,map_some->O3
open Prod renaming mk->C8
section
namespace Go.Q
open Go
open Go.RowKit (Below)
def Av (H:Tab):List Field->List CT->Nat->Bool
 | [],[],_=>true
 | f::fs,ct::cts,k=>f.name != "_"&&C2 f.offset k&&(match H.ty f.type with
  | some ti=>!ti.agg&&decide (ti.lay=[ct])&&(match ct with | .int _=>true | .bool=>true | .str=>true | _=>false)
  | none=>false)&&Av H fs cts (k+1)
 | _,_,_=>false
def Mh (P:Program) (H:Tab) (t:TypeId):Bool :=
 match H.ty t,P.underlying t with
 | some ti,some (.struct fs)=>Av H fs.toList ti.lay 0&&!P.stoodInHeld t&&!P.eqGuardType P.depth t
 | _,_=>false
def Ct (P:Program) (H:Tab):Prop:=∀ t,H.eqt t=true->Mh P H t=true
section
variable {call:Key->List D->R} {E:Env} {G G0:Gh} {st st0:St} {a:Act} {w:World}
theorem wc {P:Program} {H:Tab} {t:TypeId} {ti:TI} (ht:TyR P H t ti) (cs:List Value) (off:Nat) (hl:off+ti.lay.length<=cs.length) :
 (part t cs.toArray off).run P w=.ok (if ti.agg then .agg ((cs.drop off).take ti.lay.length).toArray else ((cs.drop off).take ti.lay.length).getD 0 undef) w:=by
 obtain ⟨d,h1,h2⟩:=ht.und;unfold part;simp only [Sem.run_bind,rl h1,Result.andThen_ok,h2];cases ha:ti.agg with
 | true =>
  simp only [if_true,Sem.run_bind,ht.sizeOf w,Result.andThen_ok];simp [pure,List.take_drop]
 | false =>
  have h1:=ht.one ha;have hlt:off<cs.length:=by omega
  simp [h1,hlt,pure,K1]
theorem yj (hH:bv E.P E.H) {t:TypeId} {x v:Val} {u:Value} {f:Nat} (hx:VR E.H G w x u) (hr:ah call st (tq E.H t x f)=some v) :
 ∃ u',(Instr.field t u f).run E.P w=.ok u' w/\VR E.H G w v u':=by
 unfold tq at hr;split at hr
 case h_2=>simp only [aa] at hr
 rename_i ti hti;split at hr
 case h_2=>simp only [aa] at hr
 rename_i n t' hf;simp only [ag] at hr;obtain ⟨hag,hr⟩:=hr;split at hr
 case h_2=>simp only [aa] at hr
 rename_i tf htf;split at hr
 case h_2=>simp only [aa] at hr
 rename_i cs;simp only [ag,ab,dn,bh,dh,di] at hr;obtain ⟨hle,rfl⟩:=hr;simp only [VR] at hx;obtain ⟨vs,rfl,h1,h2⟩:=hx;have hl:=h1.length;obtain ⟨fs,fd,tf',q1,q2,rfl,rfl,q3,q4,_⟩:=hH.field hti hf hag;rw [htf] at q3;obtain rfl:tf=tf':=by simpa using q3
 have hp:=wc (w:=w) (TyR.of (hH _ _ htf)) vs fd.offset (by omega)
 refine ⟨_,?_,mu ((h1.drop_ fd.offset).take_ tf.lay.length) fun u hu=>h2 u (G9 (J6 hu))⟩
 simp [Instr.field,am q1,q2,asAgg,hp,pure]
theorem qb {H:Tab} {P:Program} (hH:bv P H) {d:Nat} {xs0 ys0:List Value}:∀ {cts:List CT} {as bs:List Val} {xs ys:List Value} {fs:List Field} {k:Nat} {r:Bool},Av H fs cts k=true->VRL H G w as xs->VRL H G w bs ys->xs0.drop k=xs->ys0.drop k=ys →
 ah call st (dl cts as bs)=some r->(Op.eqFields (d+1) xs0.toArray ys0.toArray fs).run P w=.ok r w
 | [],as,bs,xs,ys,fs,k,r,hf,hx,hy,e1,e2,hr=>by
  cases fs with
  | cons f fs=>simp [Av] at hf
  | nil =>
   cases as <;> cases bs <;> simp only [dl,ab,aa] at hr
   subst hr;simp [Op.eqFields,pure]
 | ct::cts,[],bs,xs,ys,fs,k,r,hf,hx,hy,e1,e2,hr=>by cases ct <;> simp only [dl,aa] at hr
 | ct::cts,a::as,bs,xs,ys,fs,k,r,hf,hx,hy,e1,e2,hr=>by
  match fs,hf with
  | [],hf=>simp [Av] at hf
  | f::fs,hf =>
   simp only [Av,B4,ay,bne_iff_ne,ne_eq] at hf;obtain ⟨⟨⟨hname,rfl⟩,hty⟩,hrest⟩:=hf;cases hti:H.ty f.type with
   | none=>rw [hti] at hty; simp at hty
   | some ti =>
    rw [hti] at hty;simp only [B4,C5,decide_eq_true_eq] at hty;obtain ⟨⟨hag,hlay⟩,hct⟩:=hty;have hT:=TyR.of (hH _ _ hti);obtain ⟨b,bs',rfl⟩:∃ b bs',bs=b::bs':=by
     cases bs with
     | nil=>cases ct <;> cases a <;> simp only [dl,aa] at hr
     | cons b bs=>exact ⟨_,_,rfl⟩
    simp only [VRL] at hx hy;obtain ⟨u,us,rfl,hu,hus⟩:=hx;obtain ⟨u2,us2,rfl,hu2,hus2⟩:=hy;have part_ok:∀ (zs:List Value) (z:Value) (rest:List Value),zs.drop f.offset=z::rest->(part f.type zs.toArray f.offset).run P w=.ok z w:=by
     intro zs z rest he;have hlt:f.offset+ti.lay.length<=zs.length:=by
      have:=congrArg List.length he;rw [hlay]; simp at this ⊢; omega
     rw [wc hT zs f.offset hlt,hag,he,hlay];simp
    have d1:xs0.drop (f.offset+1)=us:=by rw [<- N4,e1]; rfl
    have d2:ys0.drop (f.offset+1)=us2:=by rw [<- N4,e2]; rfl
    have key:∀ (q q2:Bool),(Op.equalIn (d+1) f.type u u2).run P w=.ok q w->ah call st (dl cts as bs')=some q2->r=(q&&q2)->(Op.eqFields (d+1) xs0.toArray ys0.toArray (f::fs)).run P w=.ok r w:=by
     intro q q2 h1 h2 h3;have ih:=qb hH (d:=d) hrest hus hus2 d1 d2 h2;subst h3;cases q <;> simp [Op.eqFields,hname,part_ok _ _ _ e1,part_ok _ _ _ e2,h1,ih,pure]
    obtain ⟨dd,hun,_⟩:=hT.und;have h3:=hH _ _ hti;simp only [tyB,hun,B4] at h3;have h4:=h3.2;cases ct <;> cases a <;> cases b <;> simp only [dl,aa,ag,run_bind,ab,decide_eq_true_eq] at hr
    · obtain ⟨rfl,q2,hq2,rfl⟩:=hr
      simp only [VR] at hu hu2;subst hu hu2;obtain ⟨k',rfl⟩:∃ k',dd=.int k':=by cases dd <;> simp [hlay,hag] at h4 <;> exact ⟨_,rfl⟩
      exact key _ _ (run_equalIn_int w d f.type _ k' _ _ hun) hq2 (by rw [ud])
    · obtain ⟨q2,hq2,rfl⟩:=hr
      simp only [VR] at hu hu2;subst hu hu2;obtain rfl:dd=.bool:=by cases dd <;> simp [hlay,hag] at h4; rfl
      exact key _ _ (run_equalIn_bool' w d f.type _ _ hun) hq2 rfl
    · obtain ⟨q2,hq2,rfl⟩:=hr
      simp only [VR] at hu hu2;subst hu hu2;obtain rfl:dd=.string:=by cases dd <;> simp [hlay,hag] at h4; rfl
      exact key _ _ (run_equalIn_string w d f.type _ _ hun) hq2 (by rw [mr])
theorem Cu (hH:bv E.P E.H) (hQ:Ct E.P E.H) {op:BinOp} {t:TypeId} {x y v:Val} {u u2:Value} {ox oy:Operand} (hx:VR E.H G w x u) (hy:VR E.H G w y u2) (hoy:∀ c,oy=.const c->u2=c) (hr:ah call st (Ci E.H op t oy x y)=some v) :
 ∃ u',(eqGuard op t ox oy u u2).run E.P w=.ok () w/\(binOp op t u u2).run E.P w=.ok u' w/\VR E.H G w v u':=by
 unfold Ci at hr;split at hr
 · rename_i as bs
   split at hr
   case h_2=>simp only [aa] at hr
   rename_i ti hti;simp only [ag,B4] at hr;obtain ⟨⟨hag,hq⟩,hr⟩:=hr;have hqq:=hQ t hq;obtain ⟨fs,hu⟩:=hH.struct hti hag;simp only [Mh,hti,hu,B4,C5] at hqq;obtain ⟨⟨q1,q2⟩,q3⟩:=hqq;simp only [VR] at hx hy;obtain ⟨xs,rfl,h1,_⟩:=hx;obtain ⟨ys,rfl,h2,_⟩:=hy;have hfs:E.P.fieldsOf t=fs:=by simp [Program.fieldsOf,hu]
   have hg:=run_eqGuard_agg (P:=E.P) w op t ox oy xs.toArray ys.toArray q3;have he:∀ {b:Bool},ah call st (dl ti.lay as bs)=some b->(Op.equalIn 10000 t (.agg xs.toArray) (.agg ys.toArray)).run E.P w=.ok b w:=fun {b} hb=>by
    rw [run_equalIn_struct w 9999 t _ _ (by rw [hfs]; exact hu) q2,hfs]
    exact qb hH (d:=9998) q1 h1 h2 (by simp) (by simp) hb
   split at hr <;> simp only [aa,run_bind,ab] at hr
   · obtain ⟨b,hb,rfl⟩:=hr
     exact ⟨.bool b,hg,by rw [run_eql_struct,he hb]; rfl,bz⟩
   · obtain ⟨b,hb,rfl⟩:=hr
     exact ⟨.bool !b,hg,by rw [run_neq_struct,he hb]; rfl,bz⟩
 · rename_i p q
   have hub:∀ {fl:List (Nat×TypeId)},E.H.ty t=some ⟨false,[.bool],fl⟩->E.P.underlying t=some .bool:=fun {fl} h=>by
    have h1:=hH t _ h;simp only [tyB,B4] at h1;have h2:=h1.2;cases hu:E.P.underlying t with
    | none=>rw [hu] at h2; simp at h2
    | some d=>rw [hu] at h2; cases d <;> simp at h2; rfl
   simp only [VR] at hx hy;subst hx hy;split at hr <;> simp only [aa,ab] at hr
   · rename_i h; subst hr
     exact ⟨.bool (p==q),by simp [eqGuard,pure],by simp [binOp,run_equal_bool w t p q (hub h),pure],bz⟩
   · rename_i h; subst hr
     exact ⟨.bool (!(p==q)),by simp [eqGuard,pure],by simp [binOp,run_equal_bool w t p q (hub h),pure],bz⟩
 · rename_i e0 rows
   have hus:∀ {e:TypeId} {fl:List (Nat×TypeId)},E.H.ty t=some ⟨false,[.sl e],fl⟩->∃ e',E.P.underlying t=some (.slice e'):=fun {e fl} h=>by
    have h1:=hH t _ h;simp only [tyB,B4] at h1;have h2:=h1.2;cases hu:E.P.underlying t with
    | none=>rw [hu] at h2; simp at h2
    | some d=>rw [hu] at h2; cases d <;> simp at h2; exact ⟨_,rfl⟩
   simp only [VR,RC] at hx;obtain ⟨B,e1,ti,A,cap,h1,h2,rfl,h4,h5⟩:=hx;have hA:rows.length≠0->A.isNone=false:=fun hn=>by
    rcases h5 with ⟨h5,_⟩|⟨b,o,vs,B',rfl,_⟩
    · subst h5; simp at hn
    · rfl
   have e2:∀ c,oy=.const c->u2=c:=hoy;split at hr <;> try (simp only [aa] at hr; done)
   · rename_i h
     obtain ⟨e',hu⟩:=hus h;obtain rfl:=hoy _ rfl;have hb:(binOp .eql t (.slice A rows.length cap) (.slice none 0 0)).run E.P w=.ok (.bool A.isNone) w:=Lib.run_eql_slice_nil w t e' A _ _ _ _ hu;refine ⟨_,by simp [eqGuard,pure],hb,?_⟩
     rw [pi] at hr;rcases hr with ⟨h1,hr⟩|⟨h1,hr⟩ <;> simp only [ab] at hr <;> subst hr
     · simp only [VR]; exact ⟨_,rfl⟩
     · simp only [VR]; rw [hA (bf.1 h1)]
   · rename_i h
     obtain ⟨e',hu⟩:=hus h;obtain rfl:=hoy _ rfl;have hb:(binOp .neq t (.slice A rows.length cap) (.slice none 0 0)).run E.P w=.ok (.bool (!A.isNone)) w:=by
      simp only [binOp];simp [Op.equal,Op.maxDepth,Lib.run_equalIn_slice_nil w 9999 t e' A _ _ _ _ hu]
     refine ⟨_,by simp [eqGuard,pure],hb,?_⟩
     rw [pi] at hr;rcases hr with ⟨h1,hr⟩|⟨h1,hr⟩ <;> simp only [ab] at hr <;> subst hr
     · simp only [VR]; exact ⟨_,rfl⟩
     · simp only [VR]; rw [hA (bf.1 h1)]; rfl
 · have hus:∀ {e:TypeId} {fl:List (Nat×TypeId)},E.H.ty t=some ⟨false,[.sl e],fl⟩->∃ e',E.P.underlying t=some (.slice e'):=fun {e fl} h=>by
    have h1:=hH t _ h;simp only [tyB,B4] at h1;have h2:=h1.2;cases hu:E.P.underlying t with
    | none=>rw [hu] at h2; simp at h2
    | some d=>rw [hu] at h2; cases d <;> simp at h2; exact ⟨_,rfl⟩
   simp only [VR] at hx;obtain ⟨A,rfl,rfl⟩:=hx;split at hr <;> try (simp only [aa] at hr; done)
   · rename_i h
     obtain ⟨e',hu⟩:=hus h;obtain rfl:=hoy _ rfl;simp only [ab] at hr;subst hr;exact ⟨_,by simp [eqGuard,pure],Lib.run_eql_slice_nil w t e' none _ _ _ _ hu,bz⟩
   · rename_i h
     obtain ⟨e',hu⟩:=hus h;obtain rfl:=hoy _ rfl;simp only [ab] at hr;subst hr;refine ⟨.bool false,by simp [eqGuard,pure],?_,bz⟩
     simp only [binOp];simp [Op.equal,Op.maxDepth,Lib.run_equalIn_slice_nil w 9999 t e' none _ _ _ _ hu]
 · rename_i p
   have hui:∀ {fl:List (Nat×TypeId)},E.H.ty t=some ⟨false,[.err],fl⟩->∃ ms,E.P.underlying t=some (.interface ms):=fun {fl} h=>by
    have h1:=hH t _ h;simp only [tyB,B4] at h1;have h2:=h1.2;cases hu:E.P.underlying t with
    | none=>rw [hu] at h2; simp at h2
    | some d=>rw [hu] at h2; cases d <;> simp at h2; exact ⟨_,rfl⟩
   have e2:u2=.nilIface:=by simpa [VR] using hy
   subst e2;simp only [VR] at hx;split at hr <;> simp only [aa,ab] at hr
   · rename_i h; subst hr
     obtain ⟨ms,hu⟩:=hui h;have hm:E.P.underlying t=some (.interface (E.P.methodsAt t)):=by simp [Program.methodsAt,hu]
     rcases hx with ⟨rfl,rfl⟩|⟨rfl,tt,xx,rfl⟩
     · exact ⟨.bool true,by simp [eqGuard,pure],by simp [binOp,run_equal_nil_nil w t hm,run_equal_held_nil w t _ _ hm,pure],bz⟩
     · exact ⟨.bool false,by simp [eqGuard,pure],by simp [binOp,run_equal_nil_nil w t hm,run_equal_held_nil w t _ _ hm,pure],bz⟩
   · rename_i h; subst hr
     obtain ⟨ms,hu⟩:=hui h;have hm:E.P.underlying t=some (.interface (E.P.methodsAt t)):=by simp [Program.methodsAt,hu]
     rcases hx with ⟨rfl,rfl⟩|⟨rfl,tt,xx,rfl⟩
     · exact ⟨.bool false,by simp [eqGuard,pure],by simp [binOp,run_equal_nil_nil w t hm,run_equal_held_nil w t _ _ hm,pure],bz⟩
     · exact ⟨.bool true,by simp [eqGuard,pure],by simp [binOp,run_equal_nil_nil w t hm,run_equal_held_nil w t _ _ hm,pure],bz⟩
 · exact Hl hx hy hr t ox oy
end
end Go.Q
end
section
namespace Go.Q
open Go
open Go.RowKit (Below)
theorem af.split {H:Tab} {w:World} {F:Fz}:∀ (n:Nat) {rs:List (List D)} {lay:List CT} {vs:List Value} {B:List Nat},af H w F rs lay vs B →
 ∃ va vb Ba Bb,vs=va++vb/\B=Ba++Bb/\af H w F (rs.take n) lay va Ba/\af H w F (rs.drop n) lay vb Bb
 | 0,rs,lay,vs,B,h=>⟨[],vs,[],B,rfl,rfl,by simp [af],by simpa using h⟩
 | n+1,[],lay,vs,B,h=>by
  simp only [af] at h;obtain ⟨rfl,rfl⟩:=h;exact ⟨[],[],[],[],rfl,rfl,by simp [af],by simp [af]⟩
 | n+1,r::rs,lay,vs,B,h=>by
  simp only [af] at h;obtain ⟨v1,v2,B1,B2,rfl,rfl,h3,h4⟩:=h;obtain ⟨va,vb,Ba,Bb,rfl,rfl,h5,h6⟩:=af.split n h4;exact ⟨v1++va,vb,B1++Ba,Bb,by simp,by simp,by simp only [F8,af]; exact ⟨v1,va,B1,Ba,rfl,rfl,h3,h5⟩,by simpa using h6⟩
theorem RC.part {H:Tab} {w:World} {F:Fz} {rows:ak} {e:TypeId} {te:TI} {A:Option Addr} {n cap:Nat} {B:List Nat} (h:RC H w F (.sl rows) (.sl e) (.slice A n cap) B) (he:H.ty e=some te) (hn:F≠br) {lo hi:Nat} (h1:lo<=hi) (h2:hi<=rows.length) :
 ∃ B',RC H w F (.sl ((rows.take hi).drop lo)) (.sl e) (.slice (if cap=lo then A else A.map (·.add (lo*te.lay.length))) (hi-lo) (cap-lo)) B':=by
 simp only [RC] at h ⊢;obtain ⟨e',ti,A',cap',k1,k2,k3,k4,k5⟩:=h;simp only [CT.sl.injEq] at k1;subst k1;rw [he] at k2;obtain rfl:te=ti:=by simpa using k2
 simp only [Value.slice.injEq] at k3;obtain ⟨rfl,rfl,rfl⟩:=k3;have hlen:((rows.take hi).drop lo).length=hi-lo:=by simp; omega
 have k4:=k4.le;by_cases hz:(rows.take hi).drop lo=[]
 · exact ⟨[],e,te,_,cap-lo,rfl,he,by rw [hlen],.no (by rw [hlen]; omega) hn,.inl ⟨hz,rfl⟩⟩
 · rcases k5 with ⟨rfl,_⟩|⟨b,o,vs,B',rfl,rfl,k6,k7⟩
   · simp at hz
   · obtain ⟨va,vb,Ba,Bb,rfl,rfl,k8,k9⟩:=k7.split hi
     obtain ⟨vc,vd,Bc,Bd,rfl,rfl,k10,k11⟩:=k8.split lo;have hlc:vc.length=lo*te.lay.length:=by have:=k10.length; rw [this]; congr 1; simp; omega
     have hne:¬ cap=lo:=by
      intro hc;apply hz;apply D4.1;omega
     rw [H6 hne];refine ⟨b::Bd,e,te,_,cap-lo,rfl,he,by rw [hlen],.no (by rw [hlen]; omega) hn,.inr ⟨b,o+lo*te.lay.length,vd,Bd,by simp [ed],rfl,?_,k11⟩⟩
     rw [<- hlc];exact k6.left.right
section
variable {call:Key->List D->R} {E:Env} {G G0:Gh} {st st0:St} {a:Act} {w:World}
def VRO (H:Tab) (G:Gh) (w:World):Option Val->Option Value->Prop
 | none,u=>u=none
 | some x,u=>∃ v,u=some v/\VR H G w x v
theorem jq {x:Option Val} {u:Option Value} {n:Option Int} (hx:VRO E.H G w x u) (hr:ah call st (kj x)=some n):(n=none/\u=none)\/∃ k i,n=some i/\u=some (.int k i):=by
 cases x with
 | none=>simp only [kj,ab] at hr; subst hr; exact .inl ⟨rfl,hx⟩
 | some x =>
  obtain ⟨v,rfl,hv⟩:=hx;cases x <;> simp only [kj,ab,aa] at hr
  subst hr;simp only [VR] at hv;exact .inr ⟨_,_,rfl,by rw [hv]⟩
theorem kr {P:Program} {sl:Bool} {len cap:Nat} {ulo uhi:Option Value} {lo hi:Option Int} (h1:(lo=none/\ulo=none)\/∃ k i,lo=some i/\ulo=some (.int k i)) (h2:(hi=none/\uhi=none)\/∃ k i,hi=some i/\uhi=some (.int k i))
 (hlo:0<=lo.getD 0) (hlh:lo.getD 0<=hi.getD len) (hhl:hi.getD len<=len) (hc:len<=cap):(Instr.sliceBounds sl len cap ulo uhi none).run P w=.ok ((lo.getD 0).toNat,(hi.getD (len:Nat)).toNat,cap) w:=by
 rcases h1 with ⟨rfl,rfl⟩|⟨k,i,rfl,rfl⟩ <;> rcases h2 with ⟨rfl,rfl⟩|⟨k2,i2,rfl,rfl⟩ <;> simp only [Option.getD] at hlo hlh hhl ⊢
 · simp [Instr.sliceBounds,pure]
 · have hcap:(i2:Int)<=(cap:Nat):=by omega
   simp [Instr.sliceBounds,run_sliceBound w k2 i2 cap _ (by omega) hcap,pure]
 · simp [Instr.sliceBounds,run_sliceBound w k i len _ hlo hlh,pure]
 · have hcap:(i2:Int)<=(cap:Nat):=by omega
   have h3:i<=(i2.toNat:Nat):=by omega
   simp [Instr.sliceBounds,run_sliceBound w k2 i2 cap _ (by omega) hcap,run_sliceBound w k i i2.toNat _ hlo h3,pure]
theorem yk (h:Rel E G st a w) (hH:bv E.P E.H) {t:TypeId} {x:Val} {lo hi:Option Val} {u:Value} {ulo uhi:Option Value} {eff:Eff} (hx:VR E.H G w x u) (hlo:VRO E.H G w lo ulo) (hhi:VRO E.H G w hi uhi) (hr:ah call st (jn E.H t x lo hi)=some eff) :
 ∃ u',(Instr.sliceAt t u ulo uhi none).run E.P w=.ok u' w/\db E G st a eff u' w:=by
 unfold jn at hr;split at hr
 · rename_i s
   split at hr
   case h_2=>simp only [aa] at hr
   rename_i fl ht;have hu:E.P.underlying t=some .string:=by
    have h1:=hH t _ ht;simp only [tyB,B4] at h1;have h2:=h1.2;cases hu:E.P.underlying t with
    | none=>rw [hu] at h2; simp at h2
    | some d=>rw [hu] at h2; cases d <;> simp at h2; rfl
   simp only [gn,run_bind,ag,ab,B4,decide_eq_true_eq] at hr;obtain ⟨v,⟨lo',h1,hi',h2,⟨h3,h4,h5⟩,rfl⟩,rfl⟩:=hr;simp only [VR] at hx;subst hx;have hb:=kr (P:=E.P) (w:=w) (sl:=false) (jq hlo h1) (jq hhi h2) h3 h4 h5 (D1 _);exact ⟨.string (s.extract (lo'.getD 0).toNat (hi'.getD s.size).toNat),by simp [Instr.sliceAt,am hu,Instr.slice,hb,pure],h.done (by simp only [VR])⟩
 · obtain ⟨e,te,ht,he,hpos,_,hr⟩:=ft hH hr
   simp only [run_bind] at hr;obtain ⟨lo',h1,hi',h2,hr⟩:=hr;have hsz:=(TyR.of (hH _ _ he)).sizeOf (w:=w);have fin:∀ {F:Fz} {rows:ak} {A:Option Addr} {n cap:Nat} {B:List Nat},RC E.H w F (.sl rows) (.sl e) (.slice A n cap) B->F≠br->0<=lo'.getD 0->lo'.getD 0<=hi'.getD (rows.length:Nat)->hi'.getD (rows.length:Nat)<=(rows.length:Nat) →
    ∃ u' B',(Instr.sliceAt t (.slice A n cap) ulo uhi none).run E.P w=.ok u' w/\RC E.H w F (.sl ((rows.take (hi'.getD (rows.length:Nat)).toNat).drop (lo'.getD 0).toNat)) (.sl e) u' B':=by
    intro F rows A n cap B hrc hn p1 p2 p3;obtain ⟨B',k⟩:=hrc.part he hn (lo:=(lo'.getD 0).toNat) (hi:=(hi'.getD (rows.length:Nat)).toNat) (by omega) (by omega)
    have hrc':=hrc;simp only [RC] at hrc';obtain ⟨_,_,_,_,_,_,k3,k4,_⟩:=hrc';simp only [Value.slice.injEq] at k3;obtain ⟨rfl,rfl,rfl⟩:=k3;have hb:=kr (P:=E.P) (w:=w) (sl:=true) (jq hlo h1) (jq hhi h2) p1 p2 p3 k4.le;refine ⟨_,B',?_,k⟩;simp [Instr.sliceAt,am ht,Instr.slice,hb,hsz,pure]
   split at hr
   · rename_i e' rows
     simp only [ag,ab,B4,ay,decide_eq_true_eq] at hr;obtain ⟨⟨rfl,p1,p2,p3⟩,rfl⟩:=hr;simp only [VR] at hx;obtain ⟨B,hx⟩:=hx;have hx':=hx;simp only [RC] at hx';obtain ⟨_,_,A,cap,_,_,rfl,_⟩:=hx';obtain ⟨u',B',k1,k2⟩:=fin hx G.nA p1 p2 p3;exact ⟨u',k1,h.done (by simp only [VR]; exact ⟨B',k2⟩)⟩
   · rename_i j
     simp only [ax] at hr;split at hr
     case h_2=>simp only [aa] at hr
     rename_i e' lv ver rows hj;simp only [ag,ab,B4,ay,decide_eq_true_eq] at hr;obtain ⟨⟨rfl,p1,p2,p3⟩,rfl⟩:=hr;simp only [VR] at hx;obtain ⟨hU,rfl,_⟩:=hx;obtain ⟨G',s1,r1,B,hrc⟩:=h.freeze hj;have hrc':=hrc;simp only [RC] at hrc';obtain ⟨_,_,A,cap,_,_,hhv,_⟩:=hrc';rw [hhv] at hrc ⊢;obtain ⟨u',B',k1,k2⟩:=fin hrc G'.nA p1 p2 p3;exact ⟨u',k1,G',s1.le,r1,by simp only [VR]; exact ⟨B',k2⟩⟩
   · simp only [aa] at hr
end
end Go.Q
end
section
namespace Go.Q
open Go
open Go.RowKit (Below)
theorem RC.flat_ {H:Tab} {w:World} {F:Fz} {d:D} {ct:CT} {v:Value} {B:List Nat} (h:RC H w F d ct v B) (hf:Ce ct=false):B=[]/\∀ F',RC H w F' d ct v []:=by
 cases d <;> simp only [RC] at h
 · obtain ⟨k,rfl,rfl,rfl⟩:=h; exact ⟨rfl,fun F'=>by simp [RC]⟩
 · obtain ⟨rfl,rfl,rfl⟩:=h; exact ⟨rfl,fun F'=>by simp [RC]⟩
 · obtain ⟨rfl,rfl,rfl⟩:=h; exact ⟨rfl,fun F'=>by simp [RC]⟩
 · obtain ⟨e,ti,A,cap,rfl,_⟩:=h; simp [Ce] at hf
theorem RL.flat_ {H:Tab} {w:World} {F:Fz}:∀ {ds:List D} {cts:List CT} {vs:List Value} {B:List Nat},RL H w F ds cts vs B->flat cts=true->B=[]/\∀ F',RL H w F' ds cts vs []
 | [],cts,vs,B,h,hf=>by
  simp only [RL] at h;obtain ⟨rfl,rfl,rfl⟩:=h;exact ⟨rfl,fun F'=>by simp [RL]⟩
 | d::ds,cts,vs,B,h,hf=>by
  simp only [RL] at h;obtain ⟨ct,cts',u,us,B1,B2,rfl,rfl,rfl,h3,h4⟩:=h;simp only [flat,List.all_cons,B4,C5] at hf;obtain ⟨rfl,k1⟩:=h3.flat_ hf.1;obtain ⟨rfl,k2⟩:=RL.flat_ h4 hf.2;exact ⟨rfl,fun F'=>by simp only [RL]; exact ⟨ct,cts',u,us,[],[],rfl,rfl,rfl,k1 F',k2 F'⟩⟩
theorem af.flat_ {H:Tab} {w:World} {F:Fz}:∀ {rs:List (List D)} {lay:List CT} {vs:List Value} {B:List Nat},af H w F rs lay vs B->flat lay=true->B=[]/\∀ F',af H w F' rs lay vs []
 | [],lay,vs,B,h,hf=>by
  simp only [af] at h;obtain ⟨rfl,rfl⟩:=h;exact ⟨rfl,fun F'=>by simp [af]⟩
 | r::rs,lay,vs,B,h,hf=>by
  simp only [af] at h;obtain ⟨v1,v2,B1,B2,rfl,rfl,h3,h4⟩:=h;obtain ⟨rfl,k1⟩:=h3.flat_ hf;obtain ⟨rfl,k2⟩:=af.flat_ h4 hf;exact ⟨rfl,fun F'=>by simp only [af]; exact ⟨v1,v2,[],[],rfl,rfl,k1 F',k2 F'⟩⟩
theorem Src.ofEmpty {P:Program} {w:World} {size:Nat} {tx e':TypeId} (hk:P.underlying tx=some (.slice e')) (A:Option Addr) (c:Nat):Src P size tx (.slice A 0 c) 0 [] w:=by
 have h:∀ w':World,(Builtin.firstCells size 0 (.slice A 0 c)).run P w'=.ok #[] w':=fun w'=>by
  cases A with
  | none=>exact run_firstCells_none w' size 0 0 c
  | some a=>simpa using run_firstCells_some (P:=P) w' size 0 a 0 c [] (by simp) (by simp)
 exact ⟨.inl ⟨e',hk⟩,fun _=>rfl,h w,h w.drew,by simp,fun _ h=>by cases h⟩
section
variable {call:Key->List D->R} {E:Env} {G G0:Gh} {st st0:St} {a:Act} {w:World}
theorem RC.src {P:Program} {H:Tab} {F:Fz} {rows:ak} {e tx e':TypeId} {te:TI} {v:Value} {B:List Nat} (h:RC H w F (.sl rows) (.sl e) v B) (he:H.ty e=some te) (hk:P.underlying tx=some (.slice e')) :
 ∃ news B',af H w F rows te.lay news B'/\(∀ b∈B',b∈B)/\(B.Nodup->B'.Nodup)/\Src P te.lay.length tx v rows.length news w:=by
 simp only [RC] at h;obtain ⟨e1,ti,A,cap,k1,k2,rfl,k4,k5⟩:=h;simp only [CT.sl.injEq] at k1;subst k1;rw [he] at k2;obtain rfl:te=ti:=by simpa using k2
 rcases k5 with ⟨rfl,rfl⟩|⟨b,o,vs,B',rfl,rfl,k6,k7⟩
 · exact ⟨[],[],by simp [af],by simp,by simp,Src.ofEmpty hk A cap⟩
 · exact ⟨vs,B',k7,fun x hx=>by simp [hx],fun h=>(C4.1 h).2,Src.ofSlice w hk _ _ _ _ k7.length (fun j u hj=>by rw [ed]; exact (k6 j u hj).1) k7.one⟩
theorem od {H:Tab} {F:Fz}:∀ (l:List UInt8),af H w F (l.map fun b=>[D.int b.toNat]) [.int .u8] (l.map fun b=>Value.int .u8 b.toNat) []
 | []=>by simp [af]
 | b::l=>by
  simp only [C0,af];exact ⟨[.int .u8 b.toNat],_,[],[],rfl,rfl,by simp only [RL,RC]; exact ⟨.int .u8,[],_,[],[],[],rfl,rfl,rfl,⟨_,rfl,rfl,rfl⟩,rfl,rfl,rfl⟩,od l⟩
theorem Hm (h:Rel E G st a w) (hH:bv E.P E.H) {sh:Bool} {e tx:TypeId} {te:TI} {x:Val} {ux:Value} {rows:ak} {own:Bool} {ups:List (Nat×Option Obj)} (he:E.H.ty e=some te) (ht:Ak E.H tx x=true) (hx:VR E.H G w x ux)
 (hr:ah call st (Mc sh e (flat te.lay) (vu E.H e) x)=some (rows,own,ups)) :
 ∃ G' news,ci G st G' (st.upd ups)/\Rel E G' (st.upd ups) a w/\ee E G st G' (st.upd ups) w own (fun F B=>af E.H w F rows te.lay news B)/\Src E.P te.lay.length tx ux rows.length news w:=by
 have hkind:(kf x=false/\∃ e',E.P.underlying tx=some (.slice e'))\/(kf x=true/\E.P.underlying tx=some .string):=by
  unfold Ak at ht;split at ht
  · rename_i h1
    exact .inl ⟨by simpa using ht,_,(hH.slice h1).1⟩
  · rename_i h1
    refine .inr ⟨ht,?_⟩;have h1:=hH tx _ h1;simp only [tyB,B4] at h1;have h2:=h1.2;cases hu:E.P.underlying tx with
    | none=>rw [hu] at h2; simp at h2
    | some d=>rw [hu] at h2; cases d <;> simp at h2; rfl
  · simp at ht
 have hsl:kf x=false->∃ e',E.P.underlying tx=some (.slice e'):=fun hs=>by
  rcases hkind with ⟨_,h⟩|⟨h,_⟩
  · exact h
  · rw [hs] at h; simp at h
 -- rows without slices are nobody's
 have hflat:∀ {F:Fz} {rs:ak} {news:List Value} {B:List Nat} {G':Gh} {st':St},flat te.lay=true->af E.H w F rs te.lay news B->ee E G st G' st' w true (fun F B=>af E.H w F rs te.lay news B):=by
  intro F rs news B G' st' hf hrr;obtain ⟨_,k⟩:=hrr.flat_ hf;exact ⟨[],fun _=>⟨k br,by simp,fun b hb=>by simp at hb,fun b hb=>by simp at hb⟩,fun h=>by simp at h⟩
 cases x <;> simp only [Mc,aa] at hr
 case im e' rows' =>
  simp only [ag,ab,ay,C8.injEq] at hr;obtain ⟨rfl,rfl,rfl,rfl⟩:=hr;obtain ⟨e1,hk⟩:=hsl rfl;simp only [VR] at hx;obtain ⟨B,hx⟩:=hx;obtain ⟨news,B',k1,_,_,k2⟩:=hx.src he hk;refine ⟨G,news,ci.refl G st,h,?_,k2⟩;cases hfl:flat te.lay with
  | true=>exact hflat hfl k1
  | false=>exact ⟨B',fun h=>by simp at h,fun _=>k1⟩
 case nils =>
  simp only [ab,C8.injEq] at hr;obtain ⟨rfl,rfl,rfl⟩:=hr;obtain ⟨e1,hk⟩:=hsl rfl;simp only [VR] at hx;obtain ⟨A,rfl,_⟩:=hx;exact ⟨G,[],ci.refl G st,h,⟨[],fun _=>⟨by simp [af],by simp,fun b hb=>by simp at hb,fun b hb=>by simp at hb⟩,fun h=>by simp at h⟩,Src.ofEmpty hk A 0⟩
 case str s =>
  simp only [ag,ab,C8.injEq] at hr;obtain ⟨hby,rfl,rfl,rfl⟩:=hr;rcases hkind with ⟨h1,_⟩|⟨_,hk⟩
  · simp [kf] at h1
  simp only [VR] at hx;subst hx;have hte:te.lay=[.int .u8]:=by
   unfold vu at hby;split at hby
   · rename_i h1; rw [he] at h1; simp only [B7.injEq] at h1; rw [h1]
   · simp at hby
  have hl:(th s).length=s.size:=by simp only [th,List.length_map,ByteArray.toList_eq,G7]; rfl
  refine ⟨G,byteCells s,ci.refl G st,h,⟨[],fun _=>⟨?_,by simp,fun b hb=>by simp at hb,fun b hb=>by simp at hb⟩,fun h=>by simp at h⟩,?_⟩
  · have:=od (H:=E.H) (w:=w) (F:=br) s.data.toList
    rw [hte];simpa only [th,byteCells,ByteArray.toList_eq] using this
  · rw [hl,hte]
    exact Src.ofString w hk s
 case hd k =>
  simp only [ax] at hr;split at hr
  case h_2=>simp only [aa] at hr
  rename_i e' lv ver rows' hj;simp only [ag,ay] at hr;obtain ⟨rfl,hr⟩:=hr;obtain ⟨e1,hk⟩:=hsl rfl;simp only [VR] at hx;obtain ⟨hU,rfl,_⟩:=hx;have ho:=(h.objs _ _ hj).2
  -- as a source
  have hsrc:∃ news F B,af E.H w F rows' te.lay news B/\Src E.P te.lay.length tx (G.hv k) rows'.length news w:=by
   by_cases h0:rows'=[]
   · subst h0
     simp only [OR] at ho;obtain ⟨ti,A,cap,_,_,_,_,hhv,_⟩:=ho;rw [hhv];exact ⟨[],br,[],by simp [af],Src.ofEmpty hk A cap⟩
   · obtain ⟨ti,o,cur,t,vs,cap,q1,q2,q3,q4,q5,q6,q7,q8,q9,q10,q11,q12⟩:=bu ho (J7.2 h0)
     rw [he] at q1;obtain rfl:te=ti:=by simpa using q1
     obtain ⟨F,B,hrr,_⟩:=q11.rows;rw [q4];exact ⟨vs,F,B,hrr,Src.ofSlice w hk _ _ _ _ q8 (fun q u hq=>by rw [ed]; exact q12 q u hq) hrr.one⟩
  cases hfl:flat te.lay with
  | true =>
   rw [hfl] at hr;simp only [H1,ab,C8.injEq] at hr;obtain ⟨rfl,rfl,rfl⟩:=hr;obtain ⟨news,F,B,k1,k2⟩:=hsrc;exact ⟨G,news,ci.refl G st,h,hflat hfl k1,k2⟩
  | false =>
   rw [hfl] at hr;simp only [H2] at hr;cases sh with
   | true =>
    simp only [H1,ab,C8.injEq] at hr;obtain ⟨rfl,rfl,rfl⟩:=hr;obtain ⟨G',s1,r1,B,hrc⟩:=h.freeze hj;obtain ⟨news,B',k1,_,_,k2⟩:=hrc.src he hk;exact ⟨G',news,s1,r1,⟨B',fun h=>by simp at h,fun _=>k1⟩,k2⟩
   | false =>
    simp only [H2,ab,C8.injEq] at hr;obtain ⟨rfl,rfl,rfl⟩:=hr;by_cases hlv:lv=.deep
    · subst hlv
      simp only [H3];by_cases h0:rows'=[]
      · subst h0
        simp only [OR] at ho;obtain ⟨ti,A,cap,_,_,_,_,hhv,_⟩:=ho;rw [hhv];exact ⟨G,[],ci.remove G st k,h.remove k,⟨[],fun _=>⟨by simp [af],by simp,fun b hb=>by simp at hb,fun b hb=>by simp at hb⟩,fun h=>by simp at h⟩,Src.ofEmpty hk A cap⟩
      · obtain ⟨ti,o,cur,t,vs,cap,q1,q2,q3,q4,q5,q6,q7,q8,q9,q10,q11,q12⟩:=bu ho (J7.2 h0)
        rw [he] at q1;obtain rfl:te=ti:=by simpa using q1
        simp only [bc] at q11;obtain ⟨m1,m2,⟨B,m3,m4,m5⟩,_⟩:=q11;rw [q4];refine ⟨G,vs,ci.remove G st k,h.remove k,⟨B,fun _=>⟨m3,(C4.1 m4).2,fun b hb=>?_,fun b hb=>⟨k,_,hj,m5 b hb⟩⟩,fun h=>by simp at h⟩,Src.ofSlice w hk _ _ _ _ q8 (fun q u hq=>by rw [ed]; exact q12 q u hq) m3.one⟩
        obtain ⟨n1,n2⟩:=h.blk k _ b hj (m5 b hb);refine ⟨n1,n2,m2 b (m5 b hb),fun i ob hi hbl=>?_,h.pl k _ b hj (m5 b hb)⟩
        obtain ⟨hi',hne⟩:=bw hi;exact hne (h.sep i k ob _ b hi' hj hbl (m5 b hb))
    · simp only [hlv,H4]
      obtain ⟨G',s1,r1,B,hrc⟩:=h.freeze hj;obtain ⟨news,B',k1,_,_,k2⟩:=hrc.src he hk;have k4:=r1.remove k;have k5:=s1.trans (ci.remove G' _ k);have eu:∀ ob,(st.upd [(k,some ob)]).upd [(k,none)]=st.upd [(k,none)]:=fun ob=>mv st k _ _
      rw [eu] at k4 k5;exact ⟨G',news,k5,k4,⟨B',fun h=>by simp at h,fun _=>k1⟩,k2⟩
 case hn j ver i c e' =>
  simp only [ax] at hr;split at hr
  case h_2=>simp only [aa] at hr
  rename_i e0 ver' rs hj;simp only [ag,ab,ay,B4,C8.injEq] at hr;obtain ⟨⟨⟨rfl,rfl⟩,hfl⟩,rfl,rfl,rfl⟩:=hr;obtain ⟨e1,hk⟩:=hsl rfl;simp only [VR] at hx;obtain ⟨hU,hvm,rfl,_,hc,A,m,cp,hv,hi'⟩:=hx;have ho:=(h.objs _ _ hj).2;have hm:m=rs.length:=by
   have ho':=ho;simp only [OR] at ho';obtain ⟨ti',A,cap,_,_,_,_,h4,_⟩:=ho';rw [hv] at h4; simp at h4; exact h4.2.1
  obtain ⟨B,k,_⟩:=ib ho (hm▸hi') hc;obtain ⟨news,B',k1,_,_,k2⟩:=k.src he hk;exact ⟨G,news,ci.refl G st,h,hflat hfl k1,k2⟩
end
end Go.Q
end
section
namespace Go.Q
open Go
open Go.RowKit (Below)
theorem Aw {α:Type} {cur vs news:List α} {o m:Nat} (h:vs=(cur.drop o).take m) (hl:o+m+news.length<=cur.length):((over (o+m) news cur).drop o).take (m+news.length)=vs++news:=by
 have hv:vs.length=m:=by rw [h]; simp; omega
 apply F1;intro q;rw [D7,D6,bi _ _ _ _ hl];by_cases hq:q<m
 · rw [H5 (by omega),H6 (by omega),D2 (by omega),h,D7,D6,H5 hq]
 · by_cases hq2:q<m+news.length
   · rw [H5 hq2,H5 (by omega),D3 (by omega)]; congr 1; omega
   · rw [H6 hq2,D3 (by omega),List.getElem?_eq_none (by omega)]
section
variable {call:Key->List D->R} {E:Env} {G G0:Gh} {st st0:St} {a:Act} {w:World}
theorem rh {P:Program} {size:Nat} {A:Option Addr} {n cap:Nat} {vs:List Value} (hl:vs.length=n*size) (h:n*size=0\/∃ b o,A=some ⟨b,o,none⟩/\∀ (q:Nat) (u:Value),vs[q]?=some u->w.cell? ⟨b,o+q,none⟩=some u) :
 (Builtin.firstCells size n (.slice A n cap)).run P w.drew=.ok vs.toArray w.drew:=by
 cases A with
 | none =>
  rcases h with h | ⟨b,o,h,_⟩
  · rw [h] at hl
    obtain rfl:vs=[]:=D4.1 hl;exact run_firstCells_none w.drew size n n cap
  · simp at h
 | some ad =>
  refine run_firstCells_some w.drew size n ad n cap vs hl fun q u hq=>?_
  rcases h with h | ⟨b,o,h,hc⟩
  · rw [h] at hl
    obtain rfl:vs=[]:=D4.1 hl;simp at hq
  · simp only [B7.injEq] at h
    subst h;rw [ed];simpa using hc q u hq
theorem pg {P:Program} (t tx ty e:TypeId) (i:TypeInfo) (ht:P.underlying t=some (.slice e)) (hi:P.info? e=some i) (b o sLen sCap:Nat) {cur:Array Value} {t0:TypeId} (hg:w.heap[b]?=some (.cells cur t0 (0,0))) (x:Value) (n:Nat) (news:List Value) (hs:Src P i.size tx x n news w)
 (hroom:sLen+n<=sCap) (hfit:o+sLen*i.size+news.length<=cur.size) :
 (Builtin.append_ #[t,tx] ty #[.slice (some ⟨b,o,none⟩) sLen sCap,x]).run P w=.ok (.slice (some ⟨b,o,none⟩) (sLen+n) sCap) (w.setRow b (over (o+sLen*i.size) news cur.toList).toArray):=by
 have hst:=run_storeCells_at P b (o+sLen*i.size) t0 news 0 cur w hg (by simpa using hfit) hs.one
 simp only [Nat.add_zero] at hst;rw [cg _ _ _ (by simpa using hfit)]
 rcases hs.kind with ⟨e',hk⟩ | hk <;> simp [Builtin.append_,run_underlying ht,run_underlying hk,sizeOf,typeInfo,hi,hs.len,hroom,hs.cells,ed,hst]
theorem iu {P:Program} (t tx ty e:TypeId) (i:TypeInfo) (ht:P.underlying t=some (.slice e)) (hi:P.info? e=some i) (A:Option Addr) (sLen sCap:Nat) (x:Value) (hs:Src P i.size tx x 0 [] w) (hroom:sLen<=sCap) :
 (Builtin.append_ #[t,tx] ty #[.slice A sLen sCap,x]).run P w=.ok (.slice A sLen sCap) w:=by
 rcases hs.kind with ⟨e',hk⟩ | hk <;> cases A <;> simp [Builtin.append_,run_underlying ht,run_underlying hk,sizeOf,typeInfo,hi,hs.len,hroom,hs.cells,storeCells]
def zm (E:Env) (G:Gh) (st:St) (w:World) (lv:Lv) (ys:ak) (lay:List CT) (news:List Value) (B:List Nat):Prop :=
 (lv=.deep->af E.H w br ys lay news B/\B.Nodup/\dp E G st w B)/\(lv≠.deep->af E.H w G.F ys lay news B)
theorem Rel.appRoom (h:Rel E G st a w) {j:Nat} {e:TypeId} {lv:Lv} {ver:Nat} {rows:ak} {te:TI} (hj:st.o j=some (.arr e lv ver rows none)) (hte:E.H.ty e=some te) {id:Nat} (hid:st.u id=false) {o cap:Nat}
 (hhv:G.hv j=.slice (some ⟨G.bm j,o,none⟩) rows.length cap) (hpos:0<te.lay.length) {cur:Array Value} {t:TypeId} (hbb:G.blk j (G.bm j)) (hg:w.heap[G.bm j]?=some (.cells cur t (0,0))) (hfit:o+cap*te.lay.length<=cur.size)
 (hA:bc E.H G w j te.lay lv ver rows o ((cur.toList.drop o).take (rows.length*te.lay.length))) {ys:ak} {news:List Value} {B1:List Nat} (hroom:rows.length+ys.length<=cap) (hnl:news.length=ys.length*te.lay.length) (hd:zm E G st w lv ys te.lay news B1) :
 ∃ G',G.le G'/\Rel E G' ((st.upd [(j,none),(id,some (.arr e lv 0 (rows++ys) none))]).mark [id]) a (w.setRow (G.bm j) (over (o+rows.length*te.lay.length) news cur.toList).toArray) ∧
  VR E.H G' (w.setRow (G.bm j) (over (o+rows.length*te.lay.length) news cur.toList).toArray) (.hd id) (.slice (some ⟨G.bm j,o,none⟩) (rows.length+ys.length) cap):=by
 generalize hvs:(cur.toList.drop o).take (rows.length*te.lay.length)=vs at hA;have hmul:(rows.length+ys.length)*te.lay.length<=cap*te.lay.length:=C3 _ hroom;rw [E0] at hmul;have hfit2:o+rows.length*te.lay.length+news.length<=cur.toList.length:=by simp; omega
 have hvl:vs.length=rows.length*te.lay.length:=by rw [<- hvs]; simp; omega
 have hdt:=Aw (news:=news) hvs.symm hfit2;have hj1:=h.remove j;have hU:G.U j:=(h.objs j _ hj).1;have hjb:∀ b,G.blk j b->b<w.heap.size/\(E.w0.heap.size<=b\/E.lent b)/\∀ i ob,(st.upd [(j,none)]).o i=some ob->¬ G.blk i b:=fun b hb=>by
  obtain ⟨n1,n2⟩:=h.blk j _ b hj hb;refine ⟨n1,n2,fun i ob hi hbl=>?_⟩
  obtain ⟨hi',hne⟩:=bw hi;exact hne (h.sep i j ob _ b hi' hj hbl hb)
 -- frozen cells are not touched
 have hF:∀ b q,G.F b q->(w.setRow (G.bm j) (over (o+rows.length*te.lay.length) news cur.toList).toArray).cell? ⟨b,q,none⟩=w.cell? ⟨b,q,none⟩:=fun b q hf=>by
  by_cases hb:b=G.bm j
  · subst hb
    have hsp:∀ q,rows.length*te.lay.length<=q->¬ G.F (G.bm j) (o+q):=by
     cases lv <;> simp only [bc] at hA
     · exact hA.1
     · exact fun q _=>hA.1 _
     · exact fun q _=>hA.1 _
    rw [cell_setRow_same w _ q cur _ t _ hg];simp only [World.cell?,hg,List.getElem?_toArray,bi _ _ _ _ hfit2];rw [H6]
    · simp
    · intro hh
      exact hsp (q-o) (by omega) (by rw [show o+(q-o)=q by omega]; exact hf)
  · exact cy hg b q hb
 have hB1:lv=.deep->∀ b∈B1,b≠G.bm j:=fun hlv b hb e=>by
  subst e;exact ((hd.1 hlv).2.2 _ hb).2.2.2.1 j _ hj hbb
 have hnF:∀ p:Prop,(fun b q=>G.F b q\/(p/\b=G.bm j/\o+rows.length*te.lay.length<=q/\q<o+(rows.length+ys.length)*te.lay.length))≠br:=fun p =>
  Fz.nA (n:=w.heap.size) fun b q hf=>hf.elim (h.core.fsz b q) fun hf=>hf.2.1▸(h.blk j _ _ hj hbb).1
 obtain ⟨p1,p2⟩:=hj1.newObj (w':=w.setRow (G.bm j) (over (o+rows.length*te.lay.length) news cur.toList).toArray) (id:=id) (bm:=G.bm j) (hv:=.slice (some ⟨G.bm j,o,none⟩) (rows.length+ys.length) cap) (ly:=te.lay)
  (blk:=fun b=>G.blk j b\/(lv=.deep/\b∈B1)) (nh:=fun _ i c=>(vs++news).getD (i*te.lay.length+c) undef) (ob:=.arr e lv 0 (rows++ys) none)
  (F':=fun b q=>G.F b q\/(lv=.ap/\b=G.bm j/\o+rows.length*te.lay.length<=q/\q<o+(rows.length+ys.length)*te.lay.length)) hid
  (hnF _)
  (fun b q hf=>.inl hf) (fun b q hf=>hf.elim .inl fun hf=>.inr (.inl (hf.2.1▸hbb)))
  (fun hle=>by
    simp only [OR,Gh.new,ae];refine ⟨te,_,cap,hte,hpos,rfl,trivial,by rw [E6],by rw [E6]; exact hroom,.inr ⟨o,_,t,rfl,.inl hbb,setRow_heap w _ cur _ t _ hg,by
     simp only [List.size_toArray]; rw [av _ _ _ hfit2]; have:=rk (j:=id) (show (rows++ys).length<=cap by rw [E6]; exact hroom) te.lay.length; simp at this ⊢; omega,?_⟩⟩
    have e1:(rows++ys).length*te.lay.length=rows.length*te.lay.length+news.length:=by rw [E6,E0,hnl]
    simp only [bj,e1,hdt];cases lv with
    | deep =>
     obtain ⟨d1,d2,d3⟩:=hd.1 rfl;simp only [bc] at hA;obtain ⟨m1,m0,⟨B0,m2,m3,m4⟩,m5⟩:=hA;simp only [bc,ae];refine ⟨fun q hf=>hf.elim (m1 q) fun hf=>by simp at hf,fun b hb q hf=>hf.elim ?_ fun hf=>by simp at hf,⟨B0++B1,af.mono _ _ _ _ (fun b hb q _=>⟨trivial,cy hg b q ?_⟩) (m2.append d1),C4.2 ⟨fun hm=>?_,C7.2 ⟨(C4.1 m3).2,d2,fun x hx y hy e=>?_⟩⟩,fun b hb=>?_⟩,fun i c e' hi hc=>?_⟩
     · rcases hb with hb | ⟨_,hb⟩
       · exact m0 b hb q
       · exact (d3 b hb).2.2.1 q
     · rcases B8.1 hb with hb | hb
       · exact fun e=>(C4.1 m3).1 (e▸hb)
       · exact hB1 rfl b hb
     · rcases B8.1 hm with hm | hm
       · exact (C4.1 m3).1 hm
       · exact hB1 rfl _ hm rfl
     · subst e; exact (d3 x hy).2.2.2.1 j _ hj (m4 x hx)
     · rcases B8.1 hb with hb | hb
       · exact .inl (m4 b hb)
       · exact .inr ⟨trivial,hb⟩
     · have hc':=(B9.1 hc).1
       have hlt:i*te.lay.length+c<(vs++news).length:=by
        rw [E6,hvl,hnl,<- E0];rw [E6] at hi
        calc i*te.lay.length+c<i*te.lay.length+te.lay.length:=by omega
         _=(i+1)*te.lay.length:=by rw [E0]; omega
         _<=(rows.length+ys.length)*te.lay.length:=C3 _ hi
       simp only [K1,D5 hlt,K2]
    | top =>
     have d1:=hd.2 (by simp)
     simp only [bc] at hA;obtain ⟨m1,B0,m2⟩:=hA;simp only [bc,ae];exact ⟨fun q hf=>hf.elim (m1 q) fun hf=>by simp at hf,B0++B1,af.mono _ _ _ _ (fun b _ q hf=>⟨.inl hf,hF b q hf⟩) (m2.append d1) (fun e=>absurd e (hnF _))⟩
    | ap =>
     have d1:=hd.2 (by simp)
     simp only [bc] at hA;obtain ⟨m0,m1,B0,m2⟩:=hA;simp only [bc,ae];refine ⟨fun q hq hf=>?_,?_,B0++B1,af.mono _ _ _ _ (fun b _ q hf=>⟨.inl hf,hF b q hf⟩) (m2.append d1) (fun e=>absurd e (hnF _))⟩
     · rw [e1] at hq
       rcases hf with hf | ⟨_,_,_,hf⟩
       · exact m0 q (by omega) hf
       · rw [E0] at hf; omega
     · refine fv.append (m1.mono fun q hf=>⟨.inl hf,hF _ q hf⟩) ?_
       intro q u hq;have hql:=(B9.1 hq).1;rw [hvl];refine ⟨?_,.inr ⟨trivial,rfl,by omega,by rw [E0]; omega⟩⟩
       rw [cell_setRow_same w _ _ cur _ t _ hg];simp only [List.getElem?_toArray,bi _ _ _ _ hfit2];rw [H5 (by omega),show o+rows.length*te.lay.length+q-(o+rows.length*te.lay.length)=q by omega]
       exact hq)
  (by simp) rfl rfl rfl (fun b _ hb=>setRow_other w _ b _ fun e=>hb (.inl (e▸hbb))) hF
  (fun b hb=>by
    rcases hb with hb | ⟨hlv,hb⟩
    · obtain ⟨n1,n2,n3⟩:=hjb b hb
      exact ⟨by simpa using n1,n2,n3⟩
    · obtain ⟨n1,n2,n3,n4,_⟩:=(hd.1 hlv).2.2 b hb
      exact ⟨by simpa using n1,n2,fun i ob hi=>n4 i ob (bw hi).1⟩)
  (fun b hb _=>hb.elim (fun hb=>h.pl j _ b hj hb) fun hb=>((hd.1 hb.1).2.2 b hb.2).2.2.2.2)
  (fun b hlt hp _=>fh hg _ (hp (by simpa using hlt)))
 refine ⟨_,p1,by simpa only [St.upd] using p2,jp⟩
end
end Go.Q
end
section
namespace Go.Q
open Go
open Go.RowKit (Below)
theorem RL.pick {H:Tab} {w:World} {F:Fz} {ct:CT}:∀ {ds:List D} {cts:List CT} {vs:List Value} {B:List Nat} {c:Nat},RL H w F ds cts vs B->cts[c]?=some ct →
 ∃ u Bm B0,vs[c]?=some u/\RC H w F (nth ds c) ct u Bm/\(∀ b,b∈B0\/b∈Bm->b∈B)/\(B.Nodup->B0.Nodup/\Bm.Nodup/\∀ b∈B0,b∉Bm) ∧
  ∀ d u',RC H w F d ct u' []->RL H w F (over c [d] ds) cts (vs.set c u') B0
 | [],cts,vs,B,c,h,hc=>by simp only [RL] at h; obtain ⟨rfl,_⟩:=h; simp at hc
 | d0::ds,cts,vs,B,c,h,hc=>by
  simp only [RL] at h;obtain ⟨ct0,cts',u,us,B1,B2,rfl,rfl,rfl,h3,h4⟩:=h;cases c with
  | zero =>
   obtain rfl:ct0=ct:=by simpa using hc
   refine ⟨u,B1,B2,rfl,by simpa [nth] using h3,fun b hb=>B8.2 hb.symm,fun hn=>?_,fun d u' hd=>?_⟩
   · obtain ⟨n1,n2,n3⟩:=C7.1 hn
     exact ⟨n2,n1,fun b hb hb'=>n3 b hb' b hb rfl⟩
   · simp only [over,List.set_cons_zero,RL]
     exact ⟨ct0,cts',u',us,[],B2,rfl,rfl,rfl,hd,h4⟩
  | succ c =>
   obtain ⟨u',Bm,B0,k1,k2,k3,k4,k5⟩:=RL.pick h4 (c:=c) (by simpa using hc)
   refine ⟨u',Bm,B1++B0,by simpa using k1,by simpa [nth] using k2,fun b hb=>?_,fun hn=>?_,fun d v hd=>?_⟩
   · rcases hb with hb | hb
     · rcases B8.1 hb with hb | hb
       · exact B8.2 (.inl hb)
       · exact B8.2 (.inr (k3 b (.inl hb)))
     · exact B8.2 (.inr (k3 b (.inr hb)))
   · obtain ⟨n1,n2,n3⟩:=C7.1 hn
     obtain ⟨m1,m2,m3⟩:=k4 n2;refine ⟨C7.2 ⟨n1,m1,fun x hx y hy=>n3 x hx y (k3 y (.inl hy))⟩,m2,fun b hb hb'=>?_⟩
     rcases B8.1 hb with hb | hb
     · exact n3 b hb b (k3 b (.inr hb')) rfl
     · exact m3 b hb hb'
   · simp only [over,List.set_cons_succ,RL]
     exact ⟨ct0,cts',u,_,B1,B0,rfl,rfl,rfl,h3,k5 d v hd⟩
theorem af.pick {H:Tab} {w:World} {F:Fz} {ct:CT} {lay:List CT} {c:Nat} (hc:lay[c]?=some ct):∀ {rows:ak} {vs:List Value} {B:List Nat} {i:Nat},af H w F rows lay vs B->i<rows.length →
 ∃ u Bm B0,vs[i*lay.length+c]?=some u/\RC H w F (nth (rowAt rows i) c) ct u Bm/\(∀ b,b∈B0\/b∈Bm->b∈B)/\(B.Nodup->B0.Nodup/\Bm.Nodup/\∀ b∈B0,b∉Bm) ∧
  ∀ d u',RC H w F d ct u' []->af H w F (over i [over c [d] (rowAt rows i)] rows) lay (vs.set (i*lay.length+c) u') B0
 | [],vs,B,i,h,hi=>by simp at hi
 | r::rs,vs,B,i,h,hi=>by
  simp only [af] at h;obtain ⟨v1,v2,B1,B2,rfl,rfl,h3,h4⟩:=h;have hl:=h3.length.1;have hcl:=(B9.1 hc).1;cases i with
  | zero =>
   obtain ⟨u,Bm,B0,k1,k2,k3,k4,k5⟩:=h3.pick hc;refine ⟨u,Bm,B0++B2,by simp only [Nat.zero_mul,G8]; rw [D2 (by omega)]; exact k1,by simpa [rowAt] using k2,fun b hb=>?_,fun hn=>?_,fun d v hd=>?_⟩
   · rcases hb with hb | hb
     · rcases B8.1 hb with hb | hb
       · exact B8.2 (.inl (k3 b (.inl hb)))
       · exact B8.2 (.inr hb)
     · exact B8.2 (.inl (k3 b (.inr hb)))
   · obtain ⟨n1,n2,n3⟩:=C7.1 hn
     obtain ⟨m1,m2,m3⟩:=k4 n1;refine ⟨C7.2 ⟨m1,n2,fun x hx y hy=>n3 x (k3 x (.inl hx)) y hy⟩,m2,fun b hb hb'=>?_⟩
     rcases B8.1 hb with hb | hb
     · exact m3 b hb hb'
     · exact n3 b (k3 b (.inr hb')) b hb rfl
   · simp only [over,af,Nat.zero_mul,G8]
     exact ⟨v1.set c v,v2,B0,B2,by rw [List.set_append_left _ _ (by omega)],rfl,by simpa [rowAt] using k5 d v hd,h4⟩
  | succ i =>
   obtain ⟨u,Bm,B0,k1,k2,k3,k4,k5⟩:=af.pick hc (i:=i) h4 (by simpa using hi)
   have hidx:(i+1)*lay.length+c=v1.length+(i*lay.length+c):=by rw [E0]; omega
   refine ⟨u,Bm,B1++B0,by rw [hidx,D3 (by omega),Nat.add_sub_cancel_left]; exact k1,by simpa [rowAt] using k2,fun b hb=>?_,fun hn=>?_,fun d v hd=>?_⟩
   · rcases hb with hb | hb
     · rcases B8.1 hb with hb | hb
       · exact B8.2 (.inl hb)
       · exact B8.2 (.inr (k3 b (.inl hb)))
     · exact B8.2 (.inr (k3 b (.inr hb)))
   · obtain ⟨n1,n2,n3⟩:=C7.1 hn
     obtain ⟨m1,m2,m3⟩:=k4 n2;refine ⟨C7.2 ⟨n1,m1,fun x hx y hy=>n3 x hx y (k3 y (.inl hy))⟩,m2,fun b hb hb'=>?_⟩
     rcases B8.1 hb with hb | hb
     · exact n3 b hb b (k3 b (.inr hb')) rfl
     · exact m3 b hb hb'
   · simp only [over,af]
     refine ⟨v1,v2.set (i*lay.length+c) v,B1,B0,?_,rfl,h3,by simpa [rowAt] using k5 d v hd⟩
     rw [hidx,List.set_append_right _ _ (by omega),Nat.add_sub_cancel_left]
theorem mw {w:World} {F:Fz} {b o:Nat} {vs:List Value} {cur:Array Value} {t:TypeId} (h:fv w F b o vs) (hg:w.heap[b]?=some (.cells cur t (0,0))) (h0:0<vs.length):(cur.toList.drop o).take vs.length=vs/\o+vs.length<=cur.size:=by
 have key:∀ q,q<vs.length->cur[o+q]?=vs[q]?:=fun q hq=>by
  have hv:=D5 hq;have:=(h q _ hv).1;simp only [World.cell?,hg] at this;rw [hv]; simpa using this
 have hsz:o+vs.length<=cur.size:=by
  have:=key (vs.length-1) (by omega)
  rw [D5 (by omega)] at this
  have:=(E5.1 this).1;omega
 refine ⟨?_,hsz⟩;apply F1;intro q;rw [D7,D6];by_cases hq:q<vs.length
 · rw [H5 hq,<- key q hq]; simp
 · rw [H6 hq]; simp; omega
section
variable {call:Key->List D->R} {E:Env} {G G0:Gh} {st st0:St} {a:Act} {w:World}
theorem jd {st:St} {j:Nat} {x:Option Obj} (h:st.o j=x):st.upd [(j,x)]=st:=by
 simp only [St.upd];cases st with
 | mk n t o u =>
  simp only [] at h ⊢;congr 1
  funext i
  by_cases e:i=j
  · subst e; rw [ae,h]
  · rw [aj _ _ e]
theorem Cv (own:Bool):gh own .top=.top:=by cases own <;> rfl
theorem Hn (own:Bool):gh own .ap=.ap:=by cases own <;> rfl
theorem Rel.level (h:Rel E G st a w) {j:Nat} {e:TypeId} {lv:Lv} {ver:Nat} {rows ys:ak} {lay:List CT} {news:List Value} {own:Bool} (hj:st.o j=some (.arr e lv ver rows none))
 (hk:∃ B,(own=true->af E.H w br ys lay news B/\B.Nodup/\dp E G st w B)/\(own=false->af E.H w G.F ys lay news B)) :
 ∃ G' B,G.le G'/\Rel E G' (st.upd [(j,some (.arr e (gh own lv) ver rows none))]) a w/\zm E G' (st.upd [(j,some (.arr e (gh own lv) ver rows none))]) w (gh own lv) ys lay news B:=by
 obtain ⟨B,k1,k2⟩:=hk;cases own with
 | true =>
  obtain ⟨d1,d2,d3⟩:=k1 rfl;simp only [gh,H1];rw [jd hj];by_cases hlv:lv=.deep
  · exact ⟨G,B,Gh.le.refl G,h,fun _=>⟨d1,d2,d3⟩,fun hn=>absurd hlv hn⟩
  · obtain ⟨G',e1,e2,e3,e4,e5,e6,e7⟩:=h.freezeLoose d3
    exact ⟨G',B,e1,e5,fun hd=>absurd hd hlv,fun _=>af.mono _ _ _ _ (fun b hb q _=>⟨e6 b hb q,rfl⟩) d1⟩
 | false =>
  have d1:=k2 rfl;cases lv with
  | deep =>
   obtain ⟨G',e1,e2,e3,_⟩:=h.demote hj;exact ⟨G',B,e1,e3,fun hd=>by simp [gh,Lv.min,Lv.le] at hd,fun _=>af.mono _ _ _ _ (fun b _ q hf=>⟨e2 b q hf,rfl⟩) d1⟩
  | top =>
   rw [Cv,jd hj];exact ⟨G,B,Gh.le.refl G,h,fun hd=>by simp at hd,fun _=>d1⟩
  | ap =>
   rw [Hn,jd hj];exact ⟨G,B,Gh.le.refl G,h,fun hd=>by simp at hd,fun _=>d1⟩
theorem Rel.newEmpty (h:Rel E G st a w) {e:TypeId} {te:TI} (he:E.H.ty e=some te) (hpos:0<te.lay.length) {id:Nat} (hid:st.u id=false) (A:Option Addr) (lv:Lv) :
 db E G st a ⟨.hd id,[(id,some (.arr e lv 0 [] none))],[id]⟩ (.slice A 0 0) w:=by
 obtain ⟨p1,p2⟩:=h.newObj (w':=w) (id:=id) (bm:=0) (hv:=.slice A 0 0) (ly:=te.lay) (blk:=fun _=>False) (nh:=fun _ _ _=>undef) (ob:=.arr e lv 0 [] none) (F':=G.F) hid G.nA (fun _ _ h=>h) (fun _ _=>.inl)
  (fun hle=>by
    simp only [OR,Gh.new,ae];exact ⟨te,A,0,he,hpos,rfl,trivial,rfl,D1 _,.inl ⟨rfl,trivial⟩⟩)
  (D1 _) rfl rfl rfl (fun _ _ _=>rfl) (fun _ _ _=>rfl) (fun b hb=>hb.elim) (fun b hb _=>hb.elim) (fun b hlt hp _=>hp hlt)
 exact ⟨_,p1,p2,jp⟩
theorem db.ap {w':World} {e:TypeId} {lv:Lv} {rows:ak} {id:Nat} {u:Value} (hd:db E G st a ⟨.hd id,[(id,some (.arr e lv 0 rows none))],[id]⟩ u w'):db E G st a ⟨.hd id,[(id,some (.arr e .ap 0 rows none))],[id]⟩ u w':=by
 obtain ⟨G',l1,r1,v1⟩:=hd;have hj:((st.upd [(id,some (.arr e lv 0 rows none))]).mark [id]).o id=some (.arr e lv 0 rows none):=by simp only [St.mark,St.upd,ae]
 obtain ⟨G2,s2,r2,_⟩:=r1.freeze hj;refine ⟨G2,l1.trans s2.le,?_,VR.mono s2.le (fun b o hf=>⟨s2.F b o hf,rfl⟩) _ _ v1⟩
 have:((st.upd [(id,some (.arr e lv 0 rows none))]).mark [id]).upd [(id,some (.arr e .ap 0 rows none))]=(st.upd [(id,some (.arr e .ap 0 rows none))]).mark [id]:=by
  simp only [St.upd,St.mark];congr 1
  funext i
  simp only [cd];cases C2 i id <;> rfl
 rw [<- this]; exact r2
def ck (st:St) (j x ver i c:Nat) (e0 e:TypeId) (rows:ak):St :=
 (st.upd [(j,some (.arr e0 .deep ver.succ (over i [over c [.sl []] (rowAt rows i)] rows) (some (i,c)))),(x,some (.arr e .deep 0 (nth (rowAt rows i) c).L none))]).mark [x]
theorem Rel.take_ (h:Rel E G st a w) {j x ver i c:Nat} {e0 e:TypeId} {rows:ak} {te ti:TI} (hj:st.o j=some (.arr e0 .deep ver rows none)) (hte:E.H.ty e0=some te) (hc:te.lay[c]?=some (.sl e)) (hti:E.H.ty e=some ti) (hpos:0<ti.lay.length) (hi:i<rows.length)
 (hx:st.u x=false):∃ G1,G.le G1/\Rel E G1 (ck st j x ver i c e0 e rows) a w/\VR E.H G1 w (.hd x) (G.nh j ver i c)/\G1.pv j ver.succ=G1.hv x/\∀ b o,G.F b o->G1.F b o:=by
 obtain ⟨hU,ho⟩:=h.objs j _ hj;have hxj:x≠j:=fun e=>by subst e; rw [h.used _ hU] at hx; simp at hx
 obtain ⟨te',o,cur,t,vs,cap,q1,q2,q3,q4,q5,q6,q7,q8,q9,q10,q11,q12⟩:=bu ho (by omega)
 rw [hte] at q1;obtain rfl:te=te':=by simpa using q1
 have hvm:G.vm j=ver:=by simp only [OR] at ho; obtain ⟨_,_,_,_,_,_,hvm,_⟩:=ho; exact hvm
 simp only [bc] at q11;obtain ⟨m1,m2,⟨B,m3,m4,m5⟩,m6⟩:=q11;obtain ⟨u,Bm,B0,k1,k2,k3,k4,k5⟩:=m3.pick hc hi;obtain ⟨n1,n2,n3⟩:=k4 (C4.1 m4).2;have hu:u=G.nh j ver i c:=by have:=m6 i c e hi hc; rw [k1] at this; simpa using this
 have hone:u.oneCell'=true:=k2.one;have hbm:∀ b,b∈B0\/b∈Bm->b≠G.bm j:=fun b hb e=>(C4.1 m4).1 (e▸k3 b hb)
 have hcl:=(B9.1 hc).1;have hlt:i*te.lay.length+c<rows.length*te.lay.length:=by
  calc i*te.lay.length+c<i*te.lay.length+te.lay.length:=by omega
   _=(i+1)*te.lay.length:=by rw [E0]; omega
   _<=rows.length*te.lay.length:=C3 _ hi
 have hnil:RC E.H w br (.sl []) (.sl e) (.slice none 0 0) []:=by simp only [RC]; exact ⟨e,ti,none,0,rfl,hti,rfl,⟨D1 _,fun _=>.inl ⟨rfl,rfl⟩⟩,.inl ⟨trivial,trivial⟩⟩
 have hrr:=k5 _ _ hnil;have hrl:(over i [over c [D.sl []] (rowAt rows i)] rows).length=rows.length:=av _ _ _ (by simp; omega)
 obtain ⟨p1,p2⟩:=h.edit (w':=w) (ob':=.arr e0 .deep ver.succ (over i [over c [.sl []] (rowAt rows i)] rows) (some (i,c))) hj (blk:=fun b=>G.blk j b/\b∉Bm) (ver:=ver.succ)
  (nh:=fun v=>if v<=ver then G.nh j v else fun i' c'=>(vs.set (i*te.lay.length+c) (.slice none 0 0)).getD (i'*te.lay.length+c') undef) (pv:=fun v=>if v<=ver then G.pv j v else u)
  (by omega) (fun v hv=>by rw [hvm] at hv; simp only [H5 hv]) (fun v hv=>by rw [hvm] at hv; simp only [H5 hv])
  (fun hle=>by
    simp only [OR];refine ⟨te,_,cap,hte,q2,q3,by simp only [Gh.edit,ae],by rw [hrl]; exact q4,by rw [hrl]; exact q10,.inr ⟨o,cur,t,rfl,?_,q6,by rw [hrl]; exact q9,?_⟩⟩
    · simp only [Gh.edit,ae]
      exact ⟨q5,fun hb=>hbm _ (.inr hb) rfl⟩
    · have hov:ovl (G.edit j (fun b=>G.blk j b/\b∉Bm) ver.succ (fun v=>if v<=ver then G.nh j v else fun i' c'=>(vs.set (i*te.lay.length+c) (.slice none 0 0)).getD (i'*te.lay.length+c') undef) (fun v=>if v<=ver then G.pv j v else u)) j te.lay.length ver.succ (some (i,c)) ((cur.toList.drop o).take ((over i [over c [D.sl []] (rowAt rows i)] rows).length*te.lay.length))=vs.set (i*te.lay.length+c) (.slice none 0 0):=by
       rw [hrl,<- q7,ovl];have hpvx:(G.edit j (fun b=>G.blk j b/\b∉Bm) ver.succ (fun v=>if v<=ver then G.nh j v else fun i' c'=>(vs.set (i*te.lay.length+c) (.slice none 0 0)).getD (i'*te.lay.length+c') undef) (fun v=>if v<=ver then G.pv j v else u)).pv j ver.succ=u:=by
        simp only [Gh.edit,ae]; rw [H6 (by omega)]
       rw [hpvx];simp only [Hi];rw [H5 k1]
      rw [hov];simp only [bc,Gh.edit,ae];refine ⟨m1,fun b hb=>m2 b hb.1,⟨B0,hrr,C4.2 ⟨fun hb=>hbm _ (.inl hb) rfl,n1⟩,fun b hb=>⟨m5 b (k3 b (.inl hb)),n3 b hb⟩⟩,fun i' c' e' hi' hc'=>?_⟩
      rw [H6 (by omega)]
      rw [hrl] at hi';have hcl':=(B9.1 hc').1;have hlt':i'*te.lay.length+c'<rows.length*te.lay.length:=by
       calc i'*te.lay.length+c'<i'*te.lay.length+te.lay.length:=by omega
        _=(i'+1)*te.lay.length:=by rw [E0]; omega
        _<=rows.length*te.lay.length:=C3 _ hi'
      have hlen:(vs.set (i*te.lay.length+c) (.slice none 0 0)).length=rows.length*te.lay.length:=by rw [List.length_set]; exact q8
      simp [K1,D5 (show i'*te.lay.length+c'<(vs.set (i*te.lay.length+c) (.slice none 0 0)).length by omega)])
  (D1 _) rfl rfl rfl (fun _ _ _=>rfl) (fun _ _ _=>rfl)
  (fun b hb=>⟨(h.blk j _ b hj hb.1).1,(h.blk j _ b hj hb.1).2,fun i' ob hne hi' hbi=>hne (h.sep i' j ob _ b hi' hj hbi hb.1)⟩)
  (fun b hb _=>h.pl j _ b hj hb.1)
  (fun b hlt hp _=>hp hlt)
 -- the slice as an object of its own
 generalize hG1:G.edit j (fun b=>G.blk j b/\b∉Bm) ver.succ (fun v=>if v<=ver then G.nh j v else fun i' c'=>(vs.set (i*te.lay.length+c) (.slice none 0 0)).getD (i'*te.lay.length+c') undef) (fun v=>if v<=ver then G.pv j v else u)=G1 at p1 p2
 have hF1:G1.F=G.F:=by rw [<- hG1]; rfl
 have hpv1:G1.pv j ver.succ=u:=by rw [<- hG1]; simp only [Gh.edit,ae]; rw [H6 (by omega)]
 have hblk1:∀ b,G1.blk j b->b∉Bm:=fun b hb=>by rw [<- hG1] at hb; simp only [Gh.edit,ae] at hb; exact hb.2
 have hblk2:∀ i' b,i'≠j->G1.blk i' b->G.blk i' b:=fun i' b hne hb=>by rw [<- hG1] at hb; simpa only [Gh.edit,aj _ _ hne] using hb
 have hd:nth (rowAt rows i) c=.sl (nth (rowAt rows i) c).L:=by
  cases hd:nth (rowAt rows i) c with
  | sl r=>rfl
  | int n=>rw [hd] at k2; simp [RC] at k2
  | bool n=>rw [hd] at k2; simp [RC] at k2
  | str n=>rw [hd] at k2; simp [RC] at k2
 rw [hd] at k2;simp only [RC] at k2;obtain ⟨e',ti',A,cap',r1,r2,r3,r4,r5⟩:=k2;obtain rfl:e=e':=by simpa using r1
 rw [hti] at r2;obtain rfl:ti=ti':=by simpa using r2
 have hmB:∀ b∈Bm,G.blk j b:=fun b hb=>m5 b (k3 b (.inr hb))
 have hx1:(st.upd [(j,some (.arr e0 .deep ver.succ (over i [over c [.sl []] (rowAt rows i)] rows) (some (i,c))))]).u x=false:=by rw [(co st _ _).2.1]; exact hx
 have fin:∀ (bm:Nat) (vs':List Value),(∀ b,b∈Bm->True)->(G1.le (G1.new x bm u ti.lay (fun b=>b∈Bm) (fun _ i' c'=>vs'.getD (i'*ti.lay.length+c') undef) G1.F) →
  OR E.H (G1.new x bm u ti.lay (fun b=>b∈Bm) (fun _ i' c'=>vs'.getD (i'*ti.lay.length+c') undef) G1.F) w x (.arr e .deep 0 (nth (rowAt rows i) c).L none)) →
  ∃ G2,G.le G2/\Rel E G2 (ck st j x ver i c e0 e rows) a w/\VR E.H G2 w (.hd x) (G.nh j ver i c)/\G2.pv j ver.succ=G2.hv x/\∀ b o,G.F b o->G2.F b o:=fun bm vs' _ hO=>by
  obtain ⟨s1,s2⟩:=p2.newObj (w':=w) (id:=x) (bm:=bm) (hv:=u) (ly:=ti.lay) (blk:=fun b=>b∈Bm) (nh:=fun _ i' c'=>vs'.getD (i'*ti.lay.length+c') undef) (ob:=.arr e .deep 0 (nth (rowAt rows i) c).L none) (F':=G1.F) hx1 G1.nA (fun _ _ h=>h) (fun _ _=>.inl) hO
   (D1 _) rfl rfl rfl (fun _ _ _=>rfl) (fun _ _ _=>rfl)
   (fun b hb=>⟨(h.blk j _ b hj (hmB b hb)).1,(h.blk j _ b hj (hmB b hb)).2,fun i' ob hi' hbi=>by
     by_cases hne:i'=j
     · subst hne; exact hblk1 b hbi hb
     · have hi2:st.o i'=some ob:=by simpa only [St.upd,aj _ _ hne] using hi'
       exact hne (h.sep i' j ob _ b hi2 hj (hblk2 i' b hne hbi) (hmB b hb))⟩)
   (fun b hb _=>h.pl j _ b hj (hmB b hb))
   (fun b hlt hp _=>hp hlt)
  refine ⟨_,p1.trans s1,by simpa only [ck,St.upd] using s2,?_,?_,fun b o hf=>by simp only [Gh.new]; rw [hF1]; exact hf⟩
  · simp only [VR,Gh.new,ae,or_true,true_and]; exact ⟨hu.symm,by rw [<- hu]; exact hone⟩
  · simp only [Gh.new,ae]; exact hpv1
 by_cases hc0:cap'=0
 · refine fin 0 [] (fun _ _=>trivial) fun hle=>?_
   have hn:(nth (rowAt rows i) c).L=[]:=D4.1 (by have:=r4.le; omega)
   simp only [OR,Gh.new,ae];rw [hn] at r3 ⊢;exact ⟨ti,A,cap',hti,hpos,rfl,trivial,r3,Nat.zero_le _,.inl ⟨hc0,trivial⟩⟩
 · rcases r4.room rfl with ⟨_,r4'⟩|⟨b,o',B',rfl,hBm,hcells⟩
   · exact absurd r4' hc0
   rcases r5 with ⟨_,r5⟩|⟨b2,o2,vs',B2,hA2,hBm2,r6,r7⟩
   · rw [r5] at hBm; simp at hBm
   simp only [B7.injEq,Addr.mk.injEq,and_true] at hA2;obtain ⟨rfl,rfl⟩:=hA2;subst hBm;simp only [N7.injEq,true_and] at hBm2;subst hBm2;have hvl:=r7.length;obtain ⟨x1,x2⟩:=h.blk j _ b hj (hmB b (B5 ..));obtain ⟨cur',t',hg⟩:=h.pl j _ b hj (hmB b (B5 ..));have y1:(cur'.toList.drop o').take vs'.length=vs':=by
    by_cases hv0:vs'.length=0
    · rw [hv0,D4.1 hv0]; simp
    · exact (mw r6 hg (by omega)).1
   have y2:o'+cap'*ti.lay.length<=cur'.size:=by
    have hp:0<cap'*ti.lay.length:=Nat.mul_pos (by omega) hpos
    have hc:=hcells (cap'*ti.lay.length-1) (by omega)
    simp only [World.cell?,hg] at hc;have:o'+(cap'*ti.lay.length-1)<cur'.size:=by
     by_cases hlt:o'+(cap'*ti.lay.length-1)<cur'.size
     · exact hlt
     · rw [F5 (by omega)] at hc; simp at hc
    omega
   refine fin b vs' (fun _ _=>trivial) fun hle=>?_
   simp only [OR,Gh.new,ae];refine ⟨ti,_,cap',hti,hpos,rfl,trivial,r3,r4.le,.inr ⟨o',cur',t',rfl,B5 ..,hg,y2,?_⟩⟩;rw [bj,<- hvl,y1];simp only [bc,ae];refine ⟨fun q hf=>m2 b (hmB b (B5 ..)) q (hF1▸hf),fun b' hb' q hf=>m2 b' (hmB b' hb') q (hF1▸hf),⟨B',r7,n2,fun b' hb'=>B6 _ hb'⟩,fun i' c' e' hi' hc'=>?_⟩
   have hcl':=(B9.1 hc').1;have hlt':i'*ti.lay.length+c'<(nth (rowAt rows i) c).L.length*ti.lay.length:=by
    calc i'*ti.lay.length+c'<i'*ti.lay.length+ti.lay.length:=by omega
     _=(i'+1)*ti.lay.length:=by rw [E0]; omega
     _<=(nth (rowAt rows i) c).L.length*ti.lay.length:=C3 _ hi'
   simp [K1,D5 (show i'*ti.lay.length+c'<vs'.length by omega)]
end
end Go.Q
end
section
namespace Go.Q
open Go
open Go.RowKit (Below)
section
variable {call:Key->List D->R} {E:Env} {G G0:Gh} {st st0:St} {a:Act} {w:World}
theorem Rel.appGrow (h:Rel E G st a w) (hH:bv E.P E.H) {own:Bool} {t t2 ty e:TypeId} {te:TI} {rows ys:ak} {vs news:List Value} {A:Option Addr} {cap:Nat} {x:Value} (ht:E.P.underlying t=some (.slice e)) (he:E.H.ty e=some te) (hpos:0<te.lay.length) {id:Nat} (hid:st.u id=false)
 (hk:∃ B,(own=true->af E.H w br (rows++ys) te.lay (vs++news) B/\B.Nodup/\dp E G st w B)/\(own=false->af E.H w G.F (rows++ys) te.lay (vs++news) B))
 (hvl:vs.length=rows.length*te.lay.length) (hA:rows.length*te.lay.length=0\/∃ b o,A=some ⟨b,o,none⟩/\∀ (q:Nat) (u:Value),vs[q]?=some u->w.cell? ⟨b,o+q,none⟩=some u)
 (hs:Src E.P te.lay.length t2 x ys.length news w) (hg:cap<rows.length+ys.length) (hm:rows.length+ys.length<=M63) :
 ∃ u w',(Builtin.append_ #[t,t2] ty #[.slice A rows.length cap,x]).run E.P w=.ok u w'/\db E G st a ⟨.hd id,[(id,some (.arr e (gh own .deep) 0 (rows++ys) none))],[id]⟩ u w':=by
 obtain ⟨i,z,i1,i2,i3,i4,i5,i6,i7⟩:=(TyR.of (hH e te he)).info;have hzc:z.cells.size=te.lay.length:=by
  have:=(jo (G:=G) (w:=w) E.H i5).1.length;simpa using this
 unfold M63 at hm;have hfit:=growslice_fits (need:=rows.length+ys.length) (old:=cap) (bytes:=i.bytes) hg (by
  calc (rows.length+ys.length)*i.bytes<=274877906944*512:=Nat.mul_le_mul hm i3
   _<=140737488355328:=by decide)
 rw [<- i2] at hs;have hr:=run_append_grow_src (P:=E.P) w t t2 ty e i z ht i1 i4 A rows.length cap vs (rh (by rw [i2]; exact hvl) (by rw [i2]; exact hA)) x ys.length news hs hg (by omega) hfit
 have hge:=grownCap_ge w (rows.length+ys.length) cap e;have hnl:=hs.newsLen;rw [i2] at hnl;have hzl:(Builtin.zeroCells z.cells (grownCap w (rows.length+ys.length) cap e-(rows.length+ys.length))).toList.length=(grownCap w (rows.length+ys.length) cap e-(rows.length+ys.length))*te.lay.length:=by
  rw [G7,size_zeroCells,hzc]
 obtain ⟨G',l1,r1,v1⟩:=h.newArrW (rest:=(Builtin.zeroCells z.cells (grownCap w (rows.length+ys.length) cap e-(rows.length+ys.length))).toList) hk he hpos hid (cap:=grownCap w (rows.length+ys.length) cap e) (by
  rw [E6,hvl,hnl,hzl,<- E0,<- E0]; congr 1; omega) e (.inr rfl)
 have earr:((vs++news).toArray++Builtin.zeroCells z.cells (grownCap w (rows.length+ys.length) cap e-(rows.length+ys.length)))=(vs++news++(Builtin.zeroCells z.cells (grownCap w (rows.length+ys.length) cap e-(rows.length+ys.length))).toList).toArray:=by
  apply Array.ext'; simp
 rw [earr] at hr;refine ⟨_,_,hr,G',l1,r1,?_⟩;rw [E6] at v1;exact v1
theorem db.pre {G1:Gh} {st1:St} {v:Val} {ups ups1 ups2:List (Nat×Option Obj)} {nw:List Nat} {u:Value} {w':World} (hle:G.le G1) (hst:(st1.upd ups2).mark nw=(st.upd ups).mark nw) (hd:db E G1 st1 a ⟨v,ups2,nw⟩ u w'):db E G st a ⟨v,ups,nw⟩ u w':=by
 obtain ⟨G',l1,r1,v1⟩:=hd;exact ⟨G',hle.trans l1,by rw [<- hst]; exact r1,v1⟩
theorem oe (h:Rel E G st a w) (hH:bv E.P E.H) {sh:Bool} {id:Nat} {t t2 ty:TypeId} {s x:Val} {us ux:Value} {eff:Eff} (hs:VR E.H G w s us) (hx:VR E.H G w x ux) (hr:ah call st (lp E.H sh id t t2 s x)=some eff) (hnw:∀ j∈eff.nw,st.u j=false) :
 ∃ u w',(Builtin.append_ #[t,t2] ty #[us,ux]).run E.P w=.ok u w'/\db E G st a eff u w':=by
 have hr':=ft hH hr;clear hr;obtain ⟨e,te,ht,he,hpos,hpl,hr⟩:=hr';simp only [ag,run_bind] at hr;obtain ⟨hkind,⟨ys,own,ups⟩,hap,hr⟩:=hr;obtain ⟨G1,news,s1,r1,hk,hsrc⟩:=Hm h hH he hkind hx hap;obtain ⟨i,z,i1,i2,i3,i4,i5,i6,i7⟩:=(TyR.of (hH e te he)).info;have hnl:=hsrc.newsLen;cases s <;> simp only [aa] at hr
 case nils =>
  simp only [ag,dn] at hr;obtain ⟨hm,hr⟩:=hr;rw [gp] at hr;subst hr;have hid:(st.upd ups).u id=false:=by rw [(co st ups st).2.1]; exact hnw id (by simp)
  simp only [VR] at hs;obtain ⟨A,rfl,_⟩:=hs;by_cases h0:ys=[]
  · subst h0
    obtain rfl:news=[]:=by simpa using hnl
    refine ⟨_,_,iu t t2 ty e i ht i1 A 0 0 ux (by rw [i2]; exact hsrc) (D1 _),db.pre (ups1:=[]) s1.le ?_ (r1.newEmpty he hpos hid A (gh own .deep))⟩
    rw [ba]
  · have hn:0<ys.length:=J7.2 h0
    obtain ⟨u,w',k1,k2⟩:=r1.appGrow hH (ty:=ty) (rows:=[]) (vs:=[]) (A:=A) (cap:=0) (x:=ux) (own:=own) ht he hpos hid (by simpa using hk.weak) (by simp) (.inl (by simp)) hsrc (by simpa using hn) (by simpa using hm)
    refine ⟨u,w',k1,db.pre (ups1:=[]) s1.le ?_ (by simpa using k2)⟩
    rw [ba]
 case hd j =>
  simp only [ax] at hr;split at hr
  case h_2=>simp only [aa] at hr
  rename_i e' lv ver rows hj;simp only [ag,dn,ay,B4] at hr;obtain ⟨⟨rfl,hapart,hm⟩,hr⟩:=hr;rw [gp] at hr;subst hr;have hid:(st.upd ups).u id=false:=by rw [(co st ups st).2.1]; exact hnw id (by simp)
  simp only [VR] at hs;obtain ⟨hU,rfl,_⟩:=hs;have hj1:(st.upd ups).o j=some (.arr e lv ver rows none):=by rw [ce ups st fun p hp=>ic.1 hapart p hp (j,none) (by simp)]; exact hj
  obtain ⟨G2,B,l2,r2,hd⟩:=r1.level hj1 hk.weak;have hUj:G1.U j:=s1.le.U j hU;have hhv:G2.hv j=G.hv j:=(l2.hv j hUj).trans (s1.le.hv j hU);generalize hst2:(st.upd ups).upd [(j,some (.arr e (gh own lv) ver rows none))]=st2 at r2 hd;have hid2:st2.u id=false:=by rw [<- hst2,(co (st.upd ups) _ _).2.1]; exact hid
  have hj2:st2.o j=some (.arr e (gh own lv) ver rows none):=by rw [<- hst2]; simp only [St.upd,ae]
  have hfin:∀ {ob:Obj},(st2.upd [(j,none),(id,some ob)]).mark [id]=(st.upd (ups++[(j,none)]++[(id,some ob)])).mark [id]:=fun {ob}=>by
   rw [<- hst2,ba,ba];congr 1
   simp only [St.upd];congr 1
   funext q
   simp only [cd];cases C2 q id <;> cases C2 q j <;> rfl
  have hle2:G.le G2:=s1.le.trans l2;have ho:=(r2.objs j _ hj2).2;simp only [OR] at ho;obtain ⟨te',A,cap,q1,q2,q3,q4,q5,q6,q7⟩:=ho;rw [he] at q1;obtain rfl:te=te':=by simpa using q1
  rw [hhv] at q5;rw [q5];rw [lq] at q7;replace q7:=q7.imp_left fun h=>(⟨h.1,h.2⟩:cap=0/\_)
  generalize hlv2:gh own lv=lv2 at *
  -- the same,with j taken away first
  have hrem:=r2.remove j;have hidr:(st2.upd [(j,none)]).u id=false:=by rw [(co st2 _ st2).2.1]; exact hid2
  have hnewl:news.length=ys.length*te.lay.length:=hnl;have grow:∀ (vs:List Value),vs.length=rows.length*te.lay.length->(rows.length*te.lay.length=0\/∃ b o,A=some ⟨b,o,none⟩/\∀ (q:Nat) (u:Value),vs[q]?=some u->w.cell? ⟨b,o+q,none⟩=some u)->cap<rows.length+ys.length →
   (∃ B,(lv2=.deep->af E.H w br (rows++ys) te.lay (vs++news) B/\B.Nodup/\dp E G2 (st2.upd [(j,none)]) w B)/\(lv2≠.deep->af E.H w G2.F (rows++ys) te.lay (vs++news) B)) →
   ∃ u w',(Builtin.append_ #[t,t2] ty #[.slice A rows.length cap,ux]).run E.P w=.ok u w'/\db E G st a ⟨.hd id,ups++[(j,none)]++[(id,some (.arr e lv2 0 (rows++ys) none))],[id]⟩ u w':=by
   intro vs hvl hA hlt ⟨B',b1,b2⟩;have hcomb:∀ {ob:Obj},((st2.upd [(j,none)]).upd [(id,some ob)]).mark [id]=(st.upd (ups++[(j,none)]++[(id,some ob)])).mark [id]:=fun {ob}=>by rw [<- hfin]; simp only [St.upd]
   cases lv2 with
   | deep =>
    obtain ⟨u,w',k1,k2⟩:=hrem.appGrow hH (ty:=ty) (own:=true) ht he hpos hidr ⟨B',fun _=>b1 rfl,fun h=>by simp at h⟩ hvl hA hsrc hlt hm
    exact ⟨u,w',k1,db.pre (ups1:=[]) hle2 hcomb k2⟩
   | top =>
    obtain ⟨u,w',k1,k2⟩:=hrem.appGrow hH (ty:=ty) (own:=false) ht he hpos hidr ⟨B',fun h=>by simp at h,fun _=>b2 (by simp)⟩ hvl hA hsrc hlt hm
    exact ⟨u,w',k1,db.pre (ups1:=[]) hle2 hcomb k2⟩
   | ap =>
    obtain ⟨u,w',k1,k2⟩:=hrem.appGrow hH (ty:=ty) (own:=false) ht he hpos hidr ⟨B',fun h=>by simp at h,fun _=>b2 (by simp)⟩ hvl hA hsrc hlt hm
    have k3:=k2;obtain ⟨_,_,_,_⟩:=k3;exact ⟨u,w',k1,db.pre (ups1:=[]) hle2 hcomb (db.ap k2)⟩
  rcases q7 with ⟨rfl,_⟩|⟨o,cur,t',rfl,m2,m3,m4,m5⟩
  · -- no block
    have h0:rows=[]:=D4.1 (by omega)
    subst h0;by_cases hy:ys=[]
    · subst hy
      obtain rfl:news=[]:=by simpa using hnl
      refine ⟨_,_,iu t t2 ty e i ht i1 A 0 0 ux (by rw [i2]; exact hsrc) (D1 _),db.pre (ups1:=[]) (ups2:=[(id,some (.arr e lv2 0 ([]++[]) none))]) hle2 ?_ (hrem.newEmpty he hpos hidr A _)⟩
      rw [<- hfin]; simp only [St.upd]
    · have hn:0<ys.length:=J7.2 hy
      refine grow [] (by simp) (.inl (by simp)) (by simpa using hn) ⟨B,fun hl=>?_,fun hl=>by simpa using hd.2 hl⟩
      obtain ⟨d1,d2,d3⟩:=hd.1 hl;exact ⟨by simpa using d1,d2,d3.step (ci.remove G2 st2 j)⟩
  · have hvl:((cur.toList.drop o).take (rows.length*te.lay.length)).length=rows.length*te.lay.length:=by
     have:rows.length*te.lay.length<=cap*te.lay.length:=C3 _ q6;simp; omega
    simp only [bj] at m5;by_cases hroom:rows.length+ys.length<=cap
    · have hmul:(rows.length+ys.length)*te.lay.length<=cap*te.lay.length:=C3 _ hroom
      rw [E0] at hmul;obtain ⟨G',k1,k2,k3⟩:=r2.appRoom hj2 he hid2 (by rw [hhv]; exact q5) hpos m2 m3 m4 m5 hroom hnl hd
      have hrun:=pg (P:=E.P) t t2 ty e i ht i1 (G2.bm j) o rows.length cap m3 ux ys.length news (by rw [i2]; exact hsrc) hroom (by rw [i2]; omega)
      rw [i2] at hrun;refine ⟨_,_,hrun,G',hle2.trans k1,?_,k3⟩;rw [<- hfin]; exact k2
    · refine grow _ hvl (.inr ⟨G2.bm j,o,rfl,fun q u hq=>?_⟩) (by omega) ?_
      · rw [D7,D6] at hq
        split at hq
        · simp only [World.cell?,m3]; simpa using hq
        · simp at hq
      · cases lv2 with
        | deep =>
         obtain ⟨d1,d2,d3⟩:=hd.1 rfl;simp only [bc] at m5;obtain ⟨p1,p0,⟨B0,p2,p3,p4⟩,_⟩:=m5;refine ⟨B0++B,fun _=>⟨p2.append d1,C7.2 ⟨(C4.1 p3).2,d2,fun x hx y hy e=>?_⟩,fun b hb=>?_⟩,fun h=>absurd rfl h⟩
         · subst e; exact (d3 x hy).2.2.2.1 j _ hj2 (p4 x hx)
         · rcases B8.1 hb with hb | hb
           · obtain ⟨n1,n2⟩:=r2.blk j _ b hj2 (p4 b hb)
             refine ⟨n1,n2,p0 b (p4 b hb),fun i ob hi hbl=>?_,r2.pl j _ b hj2 (p4 b hb)⟩
             obtain ⟨hi',hne⟩:=bw hi;exact hne (r2.sep i j ob _ b hi' hj2 hbl (p4 b hb))
           · exact (d3.step (ci.remove G2 st2 j)) b hb
        | top =>
         simp only [bc] at m5;obtain ⟨p1,B0,p2⟩:=m5;exact ⟨B0++B,fun h=>by simp at h,fun _=>p2.append (hd.2 (by simp))⟩
        | ap =>
         simp only [bc] at m5;obtain ⟨p1,p3,B0,p2⟩:=m5;exact ⟨B0++B,fun h=>by simp at h,fun _=>p2.append (hd.2 (by simp))⟩
theorem Lm:∀ (l:List (Nat×Option Obj)) (S:St) (f:Nat->Bool),({ S with u:=f }:St).upd l={ S.upd l with u:=f }
 | [],_,_=>rfl
 | (j,ob)::r,S,f=>Lm r { S with o:=cd S.o j ob } f
theorem we (S:St) (x:Nat) (ups:List (Nat×Option Obj)) (nw:List Nat):((S.mark [x]).upd ups).mark nw=(S.upd ups).mark (x::nw):=by
 simp only [St.mark];rw [Lm,(co S ups S).2.1]
theorem Ax (h:Rel E G st a w) (hH:bv E.P E.H) {sh:Bool} {id j ver ri c:Nat} {t t2 ty e:TypeId} {x:Val} {us ux:Value} {eff:Eff} (hs:VR E.H G w (.hn j ver ri c e) us) (hx:VR E.H G w x ux) (hr:ah call st (yd E.H sh id t t2 j ver ri c e x)=some eff) (hnw:∀ j∈eff.nw,st.u j=false) :
 ∃ u w',(Builtin.append_ #[t,t2] ty #[us,ux]).run E.P w=.ok u w'/\db E G st a eff u w':=by
 simp only [yd,ax] at hr;split at hr
 case h_2=>simp only [aa] at hr
 rename_i e0 ver' rows hj;split at hr
 case h_2=>simp only [aa] at hr
 rename_i te hte;split at hr
 case h_2=>simp only [aa] at hr
 rename_i e' hc;simp only [ag,run_bind,ab,B4,ay,C5] at hr;obtain ⟨⟨hti,rfl,rfl,hri⟩,eff1,hr1,hmx,rfl⟩:=hr;rw [dj] at hr1;cases hte':E.H.ty e with
 | none=>rw [hte'] at hti; simp at hti
 | some ti =>
 rw [hte'] at hti;simp only [E7,dn,bh] at hti;have hri:ri<rows.length:=E3 hri;simp only at hnw;have hu:us=G.nh j ver ri c:=by simp only [VR] at hs; exact hs.2.2.1
 obtain ⟨G1,k1,k2,k3,_,k5⟩:=h.take_ (x:=id+63) hj hte hc hte' (by omega) hri (hnw _ (B5 ..))
 have hrun:ah call (ck st j (id+63) ver ri c e0 e rows) (lp E.H sh id t t2 (.hd (id+63)) x)=some eff1:=by
  rw [<- hr1]; exact kq (by simp only [ck,(cq _ _).2.1]) _
 obtain ⟨u,w',m1,m2⟩:=oe (ty:=ty) k2 hH (hu▸k3) (VR.mono k1 (fun b o hf=>⟨k5 b o hf,rfl⟩) _ _ hx) hrun fun j' hj'=>by
  simp only [ck,St.mark,(co st _ st).2.1,cd];have hne:j'≠id+63:=fun e=>by
   subst e;have:=(cx _ _).2 hj';rw [this] at hmx; simp at hmx
  rw [bf.2 hne];exact hnw j' (B6 _ hj')
 refine ⟨u,w',m1,?_⟩;obtain ⟨G2,l1,r1,v1⟩:=m2;exact ⟨G2,k1.trans l1,by rw [ck,we] at r1; exact r1,v1⟩
theorem Cw (h:Rel E G st a w) (hH:bv E.P E.H) {sh:Bool} {id:Nat} {t t2 ty:TypeId} {s x:Val} {us ux:Value} {eff:Eff} (hs:VR E.H G w s us) (hx:VR E.H G w x ux) (hr:ah call st (Ck E.H sh id t t2 s x)=some eff) (hnw:∀ j∈eff.nw,st.u j=false) :
 ∃ u w',(Builtin.append_ #[t,t2] ty #[us,ux]).run E.P w=.ok u w'/\db E G st a eff u w':=by
 unfold Ck at hr;split at hr
 · exact Ax h hH hs hx hr hnw
 · exact oe h hH hs hx hr hnw
theorem Rel.addLoose (h:Rel E G st a w) {x:Nat} {e:TypeId} {ti:TI} {rows:ak} {u:Value} {B:List Nat} (hx:st.u x=false) (hti:E.H.ty e=some ti) (hpos:0<ti.lay.length) (hrc:RC E.H w br (.sl rows) (.sl e) u B) (hnd:B.Nodup) (hB:dp E G st w B) :
 ∃ G2,G.le G2/\Rel E G2 ((st.upd [(x,some (.arr e .deep 0 rows none))]).mark [x]) a w/\VR E.H G2 w (.hd x) u/\G2.F=G.F/\(∀ b,G2.blk x b↔b∈B)/\∀ i,i≠x->G2.blk i=G.blk i:=by
 have hone:u.oneCell'=true:=hrc.one;simp only [RC] at hrc;obtain ⟨e',ti',A,cap',r1,r2,r3,r4,r5⟩:=hrc;obtain rfl:e=e':=by simpa using r1
 rw [hti] at r2;obtain rfl:ti=ti':=by simpa using r2
 have fin:∀ (bm:Nat) (vs':List Value),(G.le (G.new x bm u ti.lay (fun b=>b∈B) (fun _ i' c'=>vs'.getD (i'*ti.lay.length+c') undef) G.F) →
  OR E.H (G.new x bm u ti.lay (fun b=>b∈B) (fun _ i' c'=>vs'.getD (i'*ti.lay.length+c') undef) G.F) w x (.arr e .deep 0 rows none)) →
  ∃ G2,G.le G2/\Rel E G2 ((st.upd [(x,some (.arr e .deep 0 rows none))]).mark [x]) a w/\VR E.H G2 w (.hd x) u/\G2.F=G.F/\(∀ b,G2.blk x b↔b∈B)/\∀ i,i≠x->G2.blk i=G.blk i:=fun bm vs' hO=>by
  obtain ⟨s1,s2⟩:=h.newObj (w':=w) (id:=x) (bm:=bm) (hv:=u) (ly:=ti.lay) (blk:=fun b=>b∈B) (nh:=fun _ i' c'=>vs'.getD (i'*ti.lay.length+c') undef) (ob:=.arr e .deep 0 rows none) (F':=G.F) hx G.nA (fun _ _ h=>h) (fun _ _=>.inl) hO
   (D1 _) rfl rfl rfl (fun _ _ _=>rfl) (fun _ _ _=>rfl)
   (fun b hb=>⟨(hB b hb).1,(hB b hb).2.1,(hB b hb).2.2.2.1⟩)
   (fun b hb _=>(hB b hb).2.2.2.2)
   (fun b hlt hp _=>hp hlt)
  refine ⟨_,s1,s2,?_,rfl,fun b=>by simp only [Gh.new,ae],fun i hi=>by simp only [Gh.new,aj _ _ hi]⟩
  simp only [VR,Gh.new,ae,or_true,true_and]; exact hone
 by_cases hc0:cap'=0
 · refine fin 0 [] fun hle=>?_
   have hn:rows=[]:=D4.1 (by have:=r4.le; omega)
   simp only [OR,Gh.new,ae];rw [hn] at r3 ⊢;exact ⟨ti,A,cap',hti,hpos,rfl,trivial,r3,Nat.zero_le _,.inl ⟨hc0,trivial⟩⟩
 · rcases r4.room rfl with ⟨_,r4'⟩|⟨b,o',B',rfl,hBB,hcells⟩
   · exact absurd r4' hc0
   rcases r5 with ⟨_,r5⟩|⟨b2,o2,vs',B2,hA2,hBB2,r6,r7⟩
   · rw [r5] at hBB; simp at hBB
   simp only [B7.injEq,Addr.mk.injEq,and_true] at hA2;obtain ⟨rfl,rfl⟩:=hA2;subst hBB;simp only [N7.injEq,true_and] at hBB2;subst hBB2;have hvl:=r7.length;obtain ⟨cur',t',hg⟩:=(hB b (B5 ..)).2.2.2.2;have y1:(cur'.toList.drop o').take vs'.length=vs':=by
    by_cases hv0:vs'.length=0
    · rw [hv0,D4.1 hv0]; simp
    · exact (mw r6 hg (by omega)).1
   have y2:o'+cap'*ti.lay.length<=cur'.size:=by
    have hp:0<cap'*ti.lay.length:=Nat.mul_pos (by omega) hpos
    have hc:=hcells (cap'*ti.lay.length-1) (by omega)
    simp only [World.cell?,hg] at hc;have:o'+(cap'*ti.lay.length-1)<cur'.size:=by
     by_cases hlt:o'+(cap'*ti.lay.length-1)<cur'.size
     · exact hlt
     · rw [F5 (by omega)] at hc; simp at hc
    omega
   refine fin b vs' fun hle=>?_
   simp only [OR,Gh.new,ae];refine ⟨ti,_,cap',hti,hpos,rfl,trivial,r3,r4.le,.inr ⟨o',cur',t',rfl,B5 ..,hg,y2,?_⟩⟩;rw [bj,<- hvl,y1];simp only [bc,ae];refine ⟨fun q hf=>(hB b (B5 ..)).2.2.1 q hf,fun b' hb' q hf=>(hB b' hb').2.2.1 q hf,⟨B',r7,hnd,fun b' hb'=>B6 _ hb'⟩,fun i' c' e' hi' hc'=>?_⟩
   have hcl':=(B9.1 hc').1;have hlt':i'*ti.lay.length+c'<rows.length*ti.lay.length:=by
    calc i'*ti.lay.length+c'<i'*ti.lay.length+ti.lay.length:=by omega
     _=(i'+1)*ti.lay.length:=by rw [E0]; omega
     _<=rows.length*ti.lay.length:=C3 _ hi'
   simp [K1,D5 (show i'*ti.lay.length+c'<vs'.length by omega)]
theorem Rel.looseOf (h:Rel E G st a w) {j:Nat} {ob:Obj} {B:List Nat} (hj:st.o j=some ob) (hf:∀ b∈B,∀ q,¬ G.F b q) (hB:∀ b∈B,G.blk j b):dp E G (st.upd [(j,none)]) w B:=fun b hb=>by
 obtain ⟨h1,h2⟩:=h.blk j ob b hj (hB b hb);refine ⟨h1,h2,hf b hb,fun i ob' hi hbl=>?_,h.pl j ob b hj (hB b hb)⟩
 obtain ⟨hi1,hi2⟩:=bw hi;exact hi2 (h.sep i j ob' ob b hi1 hj hbl (hB b hb))
theorem et:∀ (cts:List CT) (row:List D) (o id:Nat),∀ x∈(bb cts row o id).2.map (·.1),id<=x
 | [],_,_,_,x,hx=>by simp [bb] at hx
 | .sl e::r,row,o,id,x,hx=>by
  simp only [bb,C0,C1] at hx;rcases hx with hx | hx
  · omega
  · have:=et r row (o+1) id.succ x hx; omega
 | .int k::r,row,o,id,x,hx=>et r row (o+1) id x hx
 | .bool::r,row,o,id,x,hx=>et r row (o+1) id x hx
 | .str::r,row,o,id,x,hx=>et r row (o+1) id x hx
 | .ptr::r,row,o,id,x,hx=>et r row (o+1) id x hx
 | .fn::r,row,o,id,x,hx=>et r row (o+1) id x hx
 | .err::r,row,o,id,x,hx=>et r row (o+1) id x hx
theorem qc {H:Tab} (hH:E.H=H):∀ (ds:List D) (cts:List CT) (vs:List Value) (B:List Nat) (row:List D) (o id:Nat) (G:Gh) (st:St),(∀ (i:Nat) (d:D),ds[i]?=some d->nth row (o+i)=d)->Rel E G st a w->RL H w br ds cts vs B->B.Nodup->dp E G st w B->(∀ e,.sl e∈cts->∃ ti,H.ty e=some ti/\0<ti.lay.length)->(∀ x∈(bb cts row o id).2.map (·.1),st.u x=false) →
 ∃ G2,G.le G2/\Rel E G2 ((st.upd (bb cts row o id).2).mark ((bb cts row o id).2.map (·.1))) a w/\VRL H G2 w (bb cts row o id).1 vs/\G2.F=G.F
 | [],cts,vs,B,row,o,id,G,st,_,h,hr,_,_,_,_=>by
  simp only [RL] at hr;obtain ⟨rfl,rfl,_⟩:=hr;exact ⟨G,Gh.le.refl G,h,by simp only [bb,VRL],rfl⟩
 | d::ds,cts,vs,B,row,o,id,G,st,hd,h,hr,hnd,hB,hT,hu=>by
  simp only [RL] at hr;obtain ⟨ct,cts',u,us,B1,B2,rfl,rfl,rfl,r1,r2⟩:=hr;have hn1:=C7.1 hnd;have hd0:nth row o=d:=hd 0 d rfl;have hd1:∀ (i:Nat) (d':D),ds[i]?=some d'->nth row (o+1+i)=d':=fun i d' hi=>by
   have:=hd (i+1) d' (by simpa using hi)
   rwa [show o+1+i=o+(i+1) by omega]
  have hB2:dp E G st w B2:=fun b hb=>hB b (List.mem_append_right _ hb)
  have hT2:∀ e,.sl e∈cts'->∃ ti,H.ty e=some ti/\0<ti.lay.length:=fun e he=>hT e (B6 _ he)
  have flat:(∀ x∈(bb cts' row (o+1) id).2.map (·.1),st.u x=false)->∀ v:Val,VR H G w v u->(∀ G2,G.le G2->G2.F=G.F->VR H G2 w v u)->∃ G2,G.le G2/\Rel E G2 ((st.upd (bb cts' row (o+1) id).2).mark ((bb cts' row (o+1) id).2.map (·.1))) a w/\VRL H G2 w (v::(bb cts' row (o+1) id).1) (u::us)/\G2.F=G.F  :=fun hu2 v hv hm=>by
   obtain ⟨G2,g1,g2,g3,g4⟩:=qc hH ds cts' us B2 row (o+1) id G st hd1 h r2 hn1.2.1 hB2 hT2 hu2;exact ⟨G2,g1,g2,by simp only [VRL]; exact ⟨u,us,rfl,hm G2 g1 g4,g3⟩,g4⟩
  cases d with
  | int n =>
   simp only [RC] at r1;obtain ⟨k,rfl,rfl,_⟩:=r1;have e:bb (.int k::cts') row o id=(.int k n::(bb cts' row (o+1) id).1,(bb cts' row (o+1) id).2):=by simp only [bb,hd0,D.I]
   rw [e] at hu ⊢;exact flat hu (.int k n) (by simp only [VR]) (fun _ _ _=>by simp only [VR])
  | bool n =>
   simp only [RC] at r1;obtain ⟨rfl,rfl,_⟩:=r1;have e:bb (.bool::cts') row o id=(.bool n::(bb cts' row (o+1) id).1,(bb cts' row (o+1) id).2):=by simp only [bb,hd0,D.B]
   rw [e] at hu ⊢;exact flat hu (.bool n) (by simp only [VR]) (fun _ _ _=>by simp only [VR])
  | str n =>
   simp only [RC] at r1;obtain ⟨rfl,rfl,_⟩:=r1;have e:bb (.str::cts') row o id=(.str n::(bb cts' row (o+1) id).1,(bb cts' row (o+1) id).2):=by simp only [bb,hd0,D.S]
   rw [e] at hu ⊢;exact flat hu (.str n) (by simp only [VR]) (fun _ _ _=>by simp only [VR])
  | sl rows =>
   have hct:∃ e,ct=.sl e:=by simp only [RC] at r1; obtain ⟨e,_,_,_,rfl,_⟩:=r1; exact ⟨e,rfl⟩
   obtain ⟨e,rfl⟩:=hct;obtain ⟨ti,t1,t2⟩:=hT e (B5 ..);have e0:bb (.sl e::cts') row o id=(.hd id::(bb cts' row (o+1) id.succ).1,(id,some (.arr e .deep 0 rows none))::(bb cts' row (o+1) id.succ).2):=by simp only [bb,hd0,D.L]
   rw [e0] at hu ⊢;subst hH;obtain ⟨G1,k1,k2,k3,k4,k5,k6⟩:=h.addLoose (x:=id) (hu id (B5 ..)) t1 t2 r1 hn1.1 (fun b hb=>hB b (J0 _ hb))
   have hB3:dp E G1 ((st.upd [(id,some (.arr e .deep 0 rows none))]).mark [id]) w B2:=fun b hb=>by
    obtain ⟨l1,l2,l3,l4,l5⟩:=hB2 b hb;refine ⟨l1,l2,fun q=>k4▸l3 q,fun i ob hi hbl=>?_,l5⟩
    simp only [St.mark,St.upd] at hi;by_cases hid:i=id
    · subst hid
      exact hn1.2.2 b ((k5 b).1 hbl) b hb rfl
    · rw [aj _ _ hid] at hi
      rw [k6 i hid] at hbl;exact l4 i ob hi hbl
   obtain ⟨G2,g1,g2,g3,g4⟩:=qc rfl ds cts' us B2 row (o+1) id.succ G1 _ hd1 k2 r2 hn1.2.1 hB3 hT2 (fun x hx=>by
    have hne:x≠id:=by have:=et _ _ _ _ x hx; omega
    simp only [St.mark,(co st _ _).2.1,aj _ _ hne];exact hu x (B6 _ hx))
   refine ⟨G2,k1.trans g1,?_,?_,g4.trans k4⟩
   · rw [we] at g2
     exact g2
   · simp only [VRL]
     exact ⟨u,us,rfl,VR.mono g1 (fun b o hf=>⟨g4▸hf,rfl⟩) _ _ k3,g3⟩
theorem yl (h:Rel E G st a w) (hH:bv E.P E.H) {id:Nat} {t:TypeId} {x:Val} {u:Value} {eff:Eff} (hx:VR E.H G w x u) (hr:ah call st (tm E.H id t x)=some eff) (hnw:∀ j∈eff.nw,st.u j=false) :
 ∃ u',(Instr.loadAt t u).run E.P w=.ok u' w/\db E G st a eff u' w:=by
 unfold tm at hr;split at hr
 case h_2=>simp only [aa] at hr
 rename_i ti hti;have ht:=TyR.of (hH t ti hti);split at hr
 case h_2=>simp only [aa] at hr
 rename_i j i off;simp only [ax] at hr;simp only [VR] at hx;obtain ⟨hU,b,o,n,cp,hv1,hin,rfl⟩:=hx;split at hr
 case h_2=>simp only [aa] at hr
 rename_i e ver rows hj;split at hr
 case h_2=>simp only [aa] at hr
 rename_i te hte;simp only [pc,ag,ab,dn,bh,dh,di,B4] at hr;obtain ⟨hle,⟨hsl,hil⟩,rfl⟩:=hr;have ho:=(h.objs j _ hj).2;have hn:n=rows.length:=by
  simp only [OR] at ho;obtain ⟨ti',A,cap,_,_,_,_,h4,_⟩:=ho;rw [hv1] at h4; simp at h4; exact h4.2.1
 subst hn;obtain ⟨ti',o',cur,t',vs,cap,q1,q2,q3,q4,q5,q6,rfl,q8,q9,q10,q11,q12⟩:=bu ho (by omega)
 rw [q1] at hte;obtain rfl:ti'=te:=by simpa using hte
 rw [hv1] at q4;simp only [Value.slice.injEq,B7.injEq,Addr.mk.injEq,and_true,true_and] at q4;obtain ⟨⟨rfl,rfl⟩,_⟩:=q4;rw [q3];simp only [bc] at q11;obtain ⟨m1,m2,⟨B,m3,m4,m5⟩,_⟩:=q11;obtain ⟨va,v,vb,Ba,Bm,Bb,e1,e2,k3,k4,_,_⟩:=m3.cut i hin;obtain ⟨va2,v2,vb2,Ba2,Bm2,Bb2,f1,f2,f3,f4,_,f6,_⟩:=k4.cut off ti.lay.length hle;have hnd:B.Nodup:=(C4.1 m4).2;have hsub:∀ b∈Bm2,b∈B:=fun b hb=>by rw [e2,f2]; simp [hb]
 have hnd2:Bm2.Nodup:=by
  rw [e2,f2] at hnd;exact (C7.1 (C7.1 (C7.1 (C7.1 hnd).1).2.1).1).2.1
 have hloose:=h.looseOf (B:=Bm2) hj (fun b hb q=>m2 b (m5 b (hsub b hb)) q) (fun b hb=>m5 b (hsub b hb))
 have hT:∀ e',.sl e'∈(ti'.lay.drop off).take ti.lay.length->∃ te',E.H.ty e'=some te'/\0<te'.lay.length:=fun e' he=>by
  have:=C6.1 hsl _ he;simp only at this;cases hq:E.H.ty e' with
  | none=>rw [hq] at this; simp at this
  | some te' =>
   rw [hq] at this;simp only [bh] at this;exact ⟨te',rfl,E3 this⟩
 obtain ⟨G2,g1,g2,g3,g4⟩:=qc rfl _ _ _ _ (rowAt rows i) off id G _ (fun i' d hi'=>by
  rw [D7,D6] at hi';split at hi'
  · simp [nth,K1,hi']
  · simp at hi') (h.remove j) f6 hnd2 hloose hT (fun x hx=>by rw [(co st _ _).2.1]; exact hnw x hx)
 refine ⟨_,fq.trans (ht.loadVar w _ _ v2 f4 fun q u hq=>?_),G2,g1,g2,mu g3 f6.one⟩
 have hql:=(B9.1 hq).1;have:=q12 (i*ti'.lay.length+off+q) u (by
  rw [e1,C9,D3 (by omega),k3,show i*ti'.lay.length+off+q-i*ti'.lay.length=off+q by omega]
  have hvl:off+q<v.length:=by rw [f1]; simp; omega
  rw [D2 hvl,f1,C9,D3 (by omega),f3,show off+q-off=q by omega,D2 hql]
  exact hq)
 rw [<- this]; congr 2; omega
theorem og {rows:ak} {i:Nat} {r:List D} (hi:i<rows.length):rowAt (over i [r] rows) i=r:=by
 simp only [rowAt,K1,bi _ _ _ _ (show i+[r].length<=rows.length by simp; omega)]
 rw [H5 (by simp)]; simp
theorem jr {α:Type} {l:List α} {i:Nat} {x y:α} (hi:i<l.length):over i [y] (over i [x] l)=over i [y] l:=by
 have h1:i+[x].length<=l.length:=by simp; omega
 have h2:i+[y].length<=l.length:=by simp; omega
 have h3:i+[y].length<=(over i [x] l).length:=by rw [av _ _ _ h1]; simp; omega
 apply F1;intro q;rw [bi _ _ _ _ h3,bi _ _ _ _ h2,bi _ _ _ _ h1];by_cases hq:q=i
 · subst hq; rw [H5 (by simp),H5 (by simp)]
 · rw [H6 (by simp; omega),H6 (by simp; omega),H6 (by simp; omega)]
theorem Cx {α:Type} {l:List α} {i:Nat} {x y:α} (hi:l[i]?=some y):over i [y] (l.set i x)=l:=by
 have hlt:=(B9.1 hi).1;apply F1;intro q;rw [bi _ _ _ _ (by simp; omega)]
 by_cases hq:q=i
 · subst hq; rw [H5 (by simp)]; simpa using hi.symm
 · rw [H6 (by simp; omega),List.getElem?_set_ne (Ne.symm hq)]
theorem Rel.storeNest (h:Rel E G st a w) {j:Nat} {e0 e:TypeId} {ver:Nat} {rows:ak} {te0 te:TI} (hj:st.o j=some (.arr e0 .deep ver rows none)) (hte0:E.H.ty e0=some te0) {i c:Nat} (hc:te0.lay[c]?=some (.sl e)) (hte:E.H.ty e=some te) (hpos:0<te.lay.length)
 (hi:i<rows.length) {k off n:Nat} (hl:off+n<=te.lay.length) {ds:List D} {us:List Value} (hd:RL E.H w br ds ((te.lay.drop off).take n) us []) {b o m cap:Nat} (hk:k<m) (hnh:G.nh j ver i c=.slice (some ⟨b,o,none⟩) m cap) :
 ∃ cur ty,w.heap[b]?=some (.cells cur ty (0,0))/\o+(k*te.lay.length+off)+n<=cur.size ∧
  ∃ G',G.le G'/\Rel E G' (st.upd [(j,some (.arr e0 .deep ver (over i [over c [.sl (over k [over off ds (rowAt (nth (rowAt rows i) c).L k)] (nth (rowAt rows i) c).L)] (rowAt rows i)] rows) none))]) a (w.setRow b (over (o+(k*te.lay.length+off)) us cur.toList).toArray):=by
 obtain ⟨hU,ho⟩:=h.objs j _ hj;obtain ⟨ti,o',cur',t',vs,cap',q1,q2,q3,q4,q5,q6,q7,q8,q9,q10,q11,q12⟩:=bu ho (by omega)
 rw [hte0] at q1;obtain rfl:te0=ti:=by simpa using q1
 simp only [bc] at q11;obtain ⟨m1,m0,⟨B0,m2,m3,m4⟩,m5⟩:=q11;have hvm:G.vm j=ver:=by simp only [OR] at ho; obtain ⟨_,_,_,_,_,_,hvm,_⟩:=ho; exact hvm
 obtain ⟨u,Bm,B1,p1,p2,p3,p4,p5⟩:=m2.pick hc hi;have hu:u=G.nh j ver i c:=by have:=m5 i c e hi hc; rw [p1] at this; exact B7.inj this
 have hcl:=(B9.1 hc).1;have hidx:i*te0.lay.length+c<rows.length*te0.lay.length:=by
  calc i*te0.lay.length+c<i*te0.lay.length+te0.lay.length:=by omega
   _=(i+1)*te0.lay.length:=by rw [E0]; omega
   _<=rows.length*te0.lay.length:=C3 _ hi
 have hrow:(rowAt rows i).length=te0.lay.length:=by
  obtain ⟨_,_,_,_,_,_,_,_,_,k2,_⟩:=m2.cut i hi;exact k2.length.2
 obtain ⟨nl,hnl⟩:∃ nl,nth (rowAt rows i) c=.sl nl:=by
  cases hD:nth (rowAt rows i) c with
  | sl nl=>exact ⟨nl,rfl⟩
  | int x=>rw [hD] at p2; simp only [RC] at p2; obtain ⟨_,h1,_⟩:=p2; simp at h1
  | bool x=>rw [hD] at p2; simp only [RC] at p2; simp at p2
  | str x=>rw [hD] at p2; simp only [RC] at p2; simp at p2
 rw [hnl] at p2 ⊢;simp only [D.L];simp only [RC] at p2;obtain ⟨e',te',A,cap1,r1,r2,r3,r4,r5⟩:=p2;obtain rfl:e=e':=by simpa using r1
 rw [hte] at r2;obtain rfl:te=te':=by simpa using r2
 rw [hu,hnh] at r3;simp only [Value.slice.injEq] at r3;obtain ⟨rfl,rfl,rfl⟩:=r3;rcases r5 with ⟨r5,_⟩|⟨b',o1,vs',B',r5,rfl,r6,r7⟩
 · rw [r5] at hk; simp at hk
 simp only [B7.injEq,Addr.mk.injEq,and_true] at r5;obtain ⟨rfl,rfl⟩:=r5;have hB0:=(C4.1 m3).2;obtain ⟨n1,n2,n3⟩:=p4 hB0;have hbB:b∈B0:=p3 b (.inr (B5 ..));have hbj:G.blk j b:=m4 b hbB;have hbne:b≠G.bm j:=fun e=>(C4.1 m3).1 (e▸hbB)
 obtain ⟨cur,ty,hg⟩:=h.pl j _ b hj hbj;have hvl:=r7.length;have hmul:k*te.lay.length+te.lay.length<=nl.length*te.lay.length:=by
  calc k*te.lay.length+te.lay.length=(k+1)*te.lay.length:=by rw [E0]; omega
   _<=nl.length*te.lay.length:=C3 _ hk
 have hlu:us.length=n:=by have:=hd.length.1; simp at this; omega
 have h0:0<vs'.length:=by omega
 have hsz:o+vs'.length<=cur.size:=(mw r6 hg h0).2;refine ⟨cur,ty,hg,by omega,?_⟩
 have hcell:∀ b' q,b'≠b->(w.setRow b (over (o+(k*te.lay.length+off)) us cur.toList).toArray).cell? ⟨b',q,none⟩=w.cell? ⟨b',q,none⟩:=fun b' q hb=>cy hg b' q hb
 have hcb:∀ q,(w.setRow b (over (o+(k*te.lay.length+off)) us cur.toList).toArray).cell? ⟨b,q,none⟩=(over (o+(k*te.lay.length+off)) us cur.toList)[q]?:=fun q=>by
  simp only [World.cell?,setRow_heap w _ cur _ ty _ hg];simp
 have hold:∀ q,w.cell? ⟨b,q,none⟩=cur[q]?:=fun q=>by simp only [World.cell?,hg]; simp
 have hfit:o+(k*te.lay.length+off)+us.length<=cur.toList.length:=by simp; omega
 generalize hw':w.setRow b (over (o+(k*te.lay.length+off)) us cur.toList).toArray=w' at *
 -- the ib rows
 obtain ⟨B2,s1,s2,s3⟩:=r7.cell_ hd hk hl;have hbB':b∉B':=(C4.1 n2).1;have hB2:∀ x∈B2,x∈B':=fun x hx=>by have:=s1 x hx; simpa using this
 have hlies:fv w' br b o (over (k*te.lay.length+off) us vs'):=fun q v hq=>by
  refine ⟨?_,trivial⟩;rw [hcb,bi _ _ _ _ hfit];rw [bi _ _ _ _ (by omega)] at hq
  by_cases hr:k*te.lay.length+off<=q/\q<k*te.lay.length+off+us.length
  · rw [H5 (by omega),show o+q-(o+(k*te.lay.length+off))=q-(k*te.lay.length+off) by omega]
    rwa [H5 hr] at hq
  · rw [H6 (by omega)]
    rw [H6 hr] at hq;have:=(r6 q v hq).1;rw [hold] at this;simpa using this
 have hnlen:(over k [over off ds (rowAt nl k)] nl).length=nl.length:=av _ _ _ (by simp; omega)
 have hrc:RC E.H w' br (.sl (over k [over off ds (rowAt nl k)] nl)) (.sl e) (.slice (some ⟨b,o,none⟩) nl.length cap) (b::B2):=by
  simp only [RC];refine ⟨e,te,_,cap,rfl,hte,by rw [hnlen],⟨by rw [hnlen]; exact r4.le,fun _=>?_⟩,.inr ⟨b,o,_,B2,rfl,rfl,hlies,af.mono _ _ _ _ (fun x hx q _=>⟨trivial,hcell x q fun e=>hbB' (e▸hB2 x hx)⟩) s3⟩⟩
  rcases r4.room rfl with ⟨x,_⟩|⟨b2,o2,B3,x1,x2,x3⟩
  · simp at x
  · simp only [B7.injEq,Addr.mk.injEq,and_true] at x1
    obtain ⟨rfl,rfl⟩:=x1;refine .inr ⟨b,o,B2,rfl,rfl,fun q hq=>?_⟩
    have:=x3 q hq;rw [hold,F6] at this;obtain ⟨v,hv⟩:=this;have hlt:=(E5.1 hv).1;rw [hcb,D5 (by rw [av _ _ _ hfit]; simpa using hlt)]
    rfl
 -- the container's rows
 have t0:=p5 (.sl []) (.slice none 0 0) (by simp only [RC]; exact ⟨e,te,none,0,rfl,hte,rfl,⟨D1 _,fun _=>.inl ⟨rfl,rfl⟩⟩,.inl ⟨trivial,trivial⟩⟩)
 have hbB1:b∉B1:=fun hb=>n3 b hb (B5 ..)
 have t1:af E.H w' br (over i [over c [.sl []] (rowAt rows i)] rows) te0.lay (vs.set (i*te0.lay.length+c) (.slice none 0 0)) B1:=af.mono _ _ _ _ (fun x hx q _=>⟨trivial,hcell x q fun e=>hbB1 (e▸hx)⟩) t0
 have hlen1:(over i [over c [D.sl []] (rowAt rows i)] rows).length=rows.length:=av _ _ _ (by simp; omega)
 obtain ⟨B3,y1,y2,y3⟩:=t1.cell_ (ds:=[.sl (over k [over off ds (rowAt nl k)] nl)]) (us:=[.slice (some ⟨b,o,none⟩) nl.length cap]) (B1:=b::B2) (i:=i) (off:=c) (n:=1) (by
  have e1:(te0.lay.drop c).take 1=[.sl e]:=by
   rw [List.drop_eq_getElem_cons hcl];simp only [F8,List.take_zero];rw [(B9.1 hc).2]
  rw [e1];simp only [RL];exact ⟨_,_,_,_,b::B2,[],rfl,rfl,by simp,hrc,rfl,rfl,rfl⟩) (by rw [hlen1]; exact hi) (by omega)
 rw [og hi,jr (l:=rowAt rows i) (by rw [hrow]; exact hcl),jr (l:=rows) hi,Cx (by rw [p1,hu,hnh])] at y3
 have hB3:∀ x∈B3,x∈B0:=fun x hx=>by
  rcases B8.1 (y1 x hx) with hx | hx
  · exact p3 x (.inl hx)
  · rcases C1.1 hx with rfl | hx
    · exact hbB
    · exact p3 x (.inr (B6 _ (hB2 x hx)))
 have hB3n:B3.Nodup:=by
  refine y2 (C7.2 ⟨n1,C4.2 ⟨fun hx=>hbB' (hB2 b hx),s2 (by simpa using (C4.1 n2).2)⟩,fun x hx y hy e=>?_⟩)
  subst e;rcases C1.1 hy with rfl | hy
  · exact hbB1 hx
  · exact n3 x hx (B6 _ (hB2 x hy))
 have hrl:(over i [over c [.sl (over k [over off ds (rowAt nl k)] nl)] (rowAt rows i)] rows).length=rows.length:=av _ _ _ (by simp; omega)
 have hF:∀ b' q,G.F b' q->w'.cell? ⟨b',q,none⟩=w.cell? ⟨b',q,none⟩:=fun b' q hf=>hcell b' q fun e=>m0 b hbj q (e▸hf)
 have hblk0:w'.heap[G.bm j]?=some (.cells cur' t' (0,0)):=by
  rw [<- hw',setRow_other w b (G.bm j) _ (Ne.symm hbne)]; exact q6
 obtain ⟨k1,k2⟩:=h.edit (w':=w') (ob':=.arr e0 .deep ver (over i [over c [.sl (over k [over off ds (rowAt nl k)] nl)] (rowAt rows i)] rows) none) hj (blk:=G.blk j) (ver:=ver) (nh:=G.nh j) (pv:=G.pv j) (by omega) (fun _ _=>rfl) (fun _ _=>rfl)
  (fun hle=>by
    simp only [OR];refine ⟨te0,_,cap',hte0,q2,q3,by simp only [Gh.edit,ae],by rw [hrl]; exact q4,by rw [hrl]; exact q10,.inr ⟨o',_,t',rfl,by simp only [Gh.edit,ae]; exact q5,hblk0,by rw [hrl]; exact q9,?_⟩⟩
    simp only [bc,bj,hrl,Gh.edit,ae];rw [<- q7];exact ⟨m1,m0,⟨B3,y3,C4.2 ⟨fun hb=>(C4.1 m3).1 (hB3 _ hb),hB3n⟩,fun x hx=>m4 x (hB3 x hx)⟩,m5⟩)
  (by rw [<- hw']; simp) (by rw [<- hw']; rfl) (by rw [<- hw']; rfl) (by rw [<- hw']; rfl) (fun x _ hb=>by rw [<- hw']; exact setRow_other w _ x _ fun e=>hb (e▸hbj)) hF
  (fun x hb=>⟨by rw [<- hw']; simpa using (h.blk j _ x hj hb).1,(h.blk j _ x hj hb).2,fun i ob hne hi hbi=>hne (h.sep i j ob _ x hi hj hbi hb)⟩)
  (fun x hb _=>h.pl j _ x hj hb)
  (fun x hlt hp _=>by rw [<- hw'] at hlt ⊢; exact fh hg _ (hp (by simpa using hlt)))
 exact ⟨_,k1,k2⟩
theorem wg (h:Rel E G st a w) (hH:bv E.P E.H) {sh:Bool} {t:TypeId} {j ver i c k off:Nat} {e:TypeId} {v:Val} {ux uv:Value} {eff:Eff} (hx:VR E.H G w (.en j ver i c e k off) ux) (hv:VR E.H G w v uv) (hr:ah call st (pq E.H sh t j ver i c e k off v)=some eff) :
 ∃ w',(Instr.storeAt t ux uv).run E.P w=.ok () w'/\db E G st a eff undef w':=by
 unfold pq at hr;split at hr
 case h_2=>simp only [aa] at hr
 rename_i ti hti;have ht:=TyR.of (hH t ti hti);simp only [ag,B4,ay,bh,ax] at hr;obtain ⟨⟨hok,hlen⟩,hr⟩:=hr;obtain ⟨vs,c1,c2,c3,c4⟩:=fg hv hok;split at hr
 case h_2=>simp only [aa] at hr
 rename_i e0 ver' rows hj;split at hr
 case h_2=>simp only [aa] at hr
 rename_i te0 hte0;split at hr
 case h_2=>simp only [aa] at hr
 rename_i e' hc;split at hr
 case h_2=>simp only [aa] at hr
 rename_i te hte;simp only [pc,ag,run_bind,B4,ay,dn,bh,dh,di] at hr;obtain ⟨⟨rfl,rfl,hpos⟩,hle,hfl,⟨ds,own,ups⟩,hds,hr⟩:=hr;simp only [] at hr;split at hr
 case h_2=>simp only [aa] at hr
 simp only [ab] at hr;subst hr;simp only [VR] at hx;obtain ⟨hU,_,_,⟨A,m0,cp0,g1,g2⟩,ti',b,o,m,cp,g3,g4,g5,rfl⟩:=hx;rw [hte] at g3;obtain rfl:te=ti':=by simpa using g3
 have ho:=(h.objs j _ hj).2;simp only [OR] at ho;obtain ⟨_,A',cap,_,_,_,_,h4,_,_⟩:=ho;rw [g1] at h4;simp only [Value.slice.injEq] at h4;obtain ⟨rfl,rfl,rfl⟩:=h4;have hL:nq E.H ((te.lay.drop off).take ti.lay.length):=fun e' he'=>(hH.lay hte) e' (G9 (J6 he'))
 obtain ⟨G1,s1,r1,B1,b1,b2⟩:=pj h hL c2 hds;have hd:RL E.H w br ds ((te.lay.drop off).take ti.lay.length) vs []:=by
  cases own with
  | true=>exact ((b1 rfl).1.flat_ hfl).2 _
  | false=>exact ((b2 rfl).flat_ hfl).2 _
 have hpos:0<te.lay.length:=E3 hpos;obtain ⟨cur,ty,hg,hsz,G',k1,k2⟩:=h.storeNest hj hte0 hc hte hpos g2 hle hd g5 g4;have hrun:=er ht hg c1 (by omega) (o:=o+(k*te.lay.length+off)) (by omega) c4
 refine ⟨_,by rw [show o+k*te.lay.length+off=o+(k*te.lay.length+off) by omega]; exact hrun,G',k1,by simpa only [St.mark] using k2,by simp only [VR]⟩
theorem wh (h:Rel E G st a w) (hH:bv E.P E.H) {sh:Bool} {t:TypeId} {x v:Val} {ux uv:Value} {eff:Eff} (hx:VR E.H G w x ux) (hv:VR E.H G w v uv) (hr:ah call st (pr E.H sh t x v)=some eff) :
 ∃ w',(Instr.storeAt t ux uv).run E.P w=.ok () w'/\db E G st a eff undef w':=by
 unfold pr at hr;split at hr
 · exact wg h hH hx hv hr
 · exact yi h hH hx hv hr
end
end Go.Q
end
section
namespace Go.Q
open Go
open Go.RowKit (Below)
section
variable {call:Key->List D->R} {E:Env} {G G0:Gh} {st st0:St} {a:Act} {w:World}
theorem zn (hH:bv E.P E.H) {t:TypeId} (h:Hg E.H t=true):E.P.underlying t=some .string:=by
 unfold Hg at h;split at h
 · rename_i h1
   have h1:=hH t _ h1;simp only [tyB,B4] at h1;have h2:=h1.2;cases hu:E.P.underlying t with
   | none=>rw [hu] at h2; simp at h2
   | some d=>rw [hu] at h2; cases d <;> simp at h2; rfl
 · simp at h
theorem Ho (hH:bv E.P E.H) {t:TypeId} {x:Val} (ht:Ak E.H t x=true):(kf x=false/\∃ e',E.P.underlying t=some (.slice e'))\/(kf x=true/\E.P.underlying t=some .string):=by
 unfold Ak at ht;split at ht
 · rename_i h1
   exact .inl ⟨by simpa using ht,_,(hH.slice h1).1⟩
 · rename_i h1
   exact .inr ⟨ht,zn hH (by unfold Hg; rw [h1])⟩
 · simp at ht
theorem Ay (h:Rel E G st a w) {x v:Val} {u:Value} (hx:VR E.H G w x u) (hr:ah call st (Cj x)=some v) :
 (kf x=true/\∃ s,u=.string s/\v=.int .i64 s.size)\/(kf x=false/\∃ A n cap,u=.slice A n cap/\v=.int .i64 (n:Nat)):=by
 unfold Cj at hr;split at hr
 · simp only [ab] at hr; subst hr
   simp only [VR] at hx;exact .inl ⟨rfl,_,hx,rfl⟩
 · rename_i hns
   simp only [run_bind,ab] at hr;obtain ⟨r,h1,rfl⟩:=hr;obtain ⟨A,cap,k1,k2⟩:=vw h hx h1;refine .inr ⟨?_,A,_,cap,k1,rfl⟩;cases x <;> first | rfl | exact absurd rfl (hns _)
def Ran (E:Env) (G:Gh) (st:St) (a:Act) (w:World) (o:Oper) (eff:Eff):Prop :=
 ∃ n u w',(execOp a.eval o).run E.P w=.ok n w'/\(n=.value u\/(n=.skip/\u=undef))/\db E G st a eff u w'
theorem Ran.val {o:Oper} {eff:Eff} {s:Sem Value} (he:(execOp a.eval o)=(do pure (.value (<- s)))) {u:Value} {w':World} (hs:s.run E.P w=.ok u w') (hd:db E G st a eff u w'):Ran E G st a w o eff :=
 ⟨.value u,u,w',by rw [he]; simp [hs,pure],.inl rfl,hd⟩
theorem Ran.pure_ {o:Oper} {eff:Eff} {s:Sem Value} (h:Rel E G st a w) (he:(execOp a.eval o)=(do pure (.value (<- s)))) {m:M Val} (hm:ah call st (df m)=some eff) (hs:∀ v,ah call st m=some v->∃ u,s.run E.P w=.ok u w/\VR E.H G w v u):Ran E G st a w o eff:=by
 rw [gn] at hm;obtain ⟨v,h1,rfl⟩:=hm;obtain ⟨u,h2,h3⟩:=hs v h1;exact Ran.val he h2 (h.done h3)
theorem gd {α β:Type} (l:Array α) (f:α->β):l.map f=(l.toList.map f).toArray:=by
 apply Array.ext'; simp
theorem wi (h:Rel E G st a w) (hH:bv E.P E.H) {id:Nat} {t:TypeId} {x hi mx:Val} {u uh um:Value} {eff:Eff} (hx:VR E.H G w x u) (hhi:VR E.H G w hi uh) (hmx:VR E.H G w mx um) (hr:ah call st (pt E.H id t x hi mx)=some eff) (hnw:∀ j∈eff.nw,st.u j=false) :
 ∃ u',(Instr.sliceAt t u none (some uh) (some um)).run E.P w=.ok u' w/\db E G st a eff u' w:=by
 unfold pt at hr;obtain ⟨e,te,ht,he,hpos,_,hr⟩:=ft hH hr;simp only [run_bind,ag,B4,decide_eq_true_eq] at hr;obtain ⟨a1,h1,b1,h2,⟨rfl,rfl⟩,r,h3,hr⟩:=hr;simp only [pb,ab] at hr;subst hr;obtain ⟨A,cap,rfl,_⟩:=vw h hx h3;have hsz:=(TyR.of (hH _ _ he)).sizeOf (w:=w);cases hi <;> simp only [ir,ab,aa] at h1
 cases mx <;> simp only [ir,ab,aa] at h2
 subst h1; subst h2;simp only [VR] at hhi hmx;subst hhi; subst hmx;refine ⟨.slice A 0 0,?_,h.newEmpty he hpos (hnw _ (by simp)) A .deep⟩
 simp [Instr.sliceAt,am ht,Instr.slice,Instr.sliceBounds,run_sliceBound,hsz,pure]
theorem Rel.trunc (h:Rel E G st a w) {j:Nat} {e:TypeId} {lv:Lv} {ver:Nat} {rows:ak} {te:TI} (hj:st.o j=some (.arr e lv ver rows none)) (hte:E.H.ty e=some te) {id:Nat} (hid:st.u id=false) (hlv:lv≠.ap) {n:Nat} (hn:n<=rows.length) :
 ∃ A cap,G.hv j=.slice A rows.length cap/\rows.length<=cap/\db E G st a ⟨.hd id,[(j,none),(id,some (.arr e lv 0 (rows.take n) none))],[id]⟩ (.slice A n cap) w:=by
 obtain ⟨hU,ho⟩:=h.objs j _ hj;simp only [OR] at ho;obtain ⟨te',A,cap,r1,r2,r3,r4,r5,r6,r7⟩:=ho;rw [hte] at r1;obtain rfl:te=te':=by simpa using r1
 refine ⟨A,cap,r5,r6,?_⟩;have hj1:=h.remove j;rcases r7 with ⟨r7,_⟩|⟨o,cur,t,rfl,k2,k3,k4,k5⟩
 · unfold lr at r7
   obtain rfl:rows=[]:=D4.1 (by omega)
   obtain rfl:n=0:=by simpa using hn
   obtain ⟨G',l1,s1,v1⟩:=hj1.newEmpty hte r2 (id:=id) hid A lv;subst r7;exact ⟨G',l1,by simpa only [St.upd,List.take_nil] using s1,v1⟩
 · rw [bj] at k5
   generalize hvs:(cur.toList.drop o).take (rows.length*te.lay.length)=vs at k5;have hmul:n*te.lay.length<=rows.length*te.lay.length:=C3 _ hn;have hmul2:n*te.lay.length<=cap*te.lay.length:=C3 _ (Nat.le_trans hn r6);have hlen:(rows.take n).length=n:=by simp; omega
   have hjb:∀ b,G.blk j b->b<w.heap.size/\(E.w0.heap.size<=b\/E.lent b)/\∀ i ob,(st.upd [(j,none)]).o i=some ob->¬ G.blk i b:=fun b hb=>by
    obtain ⟨n1,n2⟩:=h.blk j _ b hj hb;refine ⟨n1,n2,fun i ob hi hbl=>?_⟩
    obtain ⟨hi',hne⟩:=bw hi;exact hne (h.sep i j ob _ b hi' hj hbl hb)
   have htk:(cur.toList.drop o).take (n*te.lay.length)=vs.take (n*te.lay.length):=by
    rw [<- hvs,List.take_take,Nat.min_eq_left hmul]
   have hvt:∀ (va vb:List Value),vs=va++vb->va.length=n*te.lay.length->vs.take (n*te.lay.length)=va:=fun va vb e1 e2=>by rw [e1,<- e2,List.take_left]
   obtain ⟨p1,p2⟩:=hj1.newObj (w':=w) (id:=id) (bm:=G.bm j) (hv:=.slice (some ⟨G.bm j,o,none⟩) n cap) (ly:=te.lay)
    (blk:=G.blk j) (nh:=fun _ i c=>vs.getD (i*te.lay.length+c) undef) (ob:=.arr e lv 0 (rows.take n) none) (F':=G.F) hid G.nA (fun _ _ h=>h) (fun _ _=>.inl)
    (fun hle=>by
      simp only [OR,Gh.new,ae];refine ⟨te,_,cap,hte,r2,rfl,trivial,by rw [hlen],by rw [hlen]; omega,.inr ⟨o,_,t,rfl,k2,k3,by rw [lq] at k4 ⊢; exact k4,?_⟩⟩
      rw [hlen,bj,htk];cases lv with
      | deep =>
       simp only [bc] at k5;obtain ⟨m1,m0,⟨B,m2,m3,m4⟩,m5⟩:=k5;obtain ⟨va,vb,Ba,Bb,e1,e2,s1,s2⟩:=m2.split n;have hval:va.length=n*te.lay.length:=by rw [s1.length,hlen]
       rw [hvt va vb e1 hval];have hvl:=m2.length;subst e2;simp only [bc,ae];refine ⟨m1,m0,⟨Ba,s1,?_,fun b hb=>m4 b (J0 _ hb)⟩,fun i c e' hi hc=>?_⟩
       · obtain ⟨q1,q2⟩:=C4.1 m3
         exact C4.2 ⟨fun hm=>q1 (J0 _ hm),(C7.1 q2).1⟩
       · rw [hlen] at hi
         have hc':=(B9.1 hc).1;have hlt:i*te.lay.length+c<va.length:=by
          rw [hval]
          calc i*te.lay.length+c<i*te.lay.length+te.lay.length:=by omega
           _=(i+1)*te.lay.length:=by rw [E0]; omega
           _<=n*te.lay.length:=C3 _ hi
         rw [e1];simp only [K1];rw [D2 hlt,D5 hlt];rfl
      | top =>
       simp only [bc] at k5;obtain ⟨m1,B,m2⟩:=k5;obtain ⟨va,vb,Ba,Bb,e1,e2,s1,s2⟩:=m2.split n;have hval:va.length=n*te.lay.length:=by rw [s1.length,hlen]
       rw [hvt va vb e1 hval];simp only [bc,ae];exact ⟨m1,Ba,s1⟩
      | ap=>exact absurd rfl hlv)
    (D1 _) rfl rfl rfl (fun _ _ _=>rfl) (fun _ _ _=>rfl)
    hjb (fun b hb _=>h.pl j _ b hj hb) (fun b hlt hp _=>hp hlt)
   exact ⟨_,p1,by simpa only [St.upd] using p2,jp⟩
theorem ym (h:Rel E G st a w) (hH:bv E.P E.H) {id:Nat} {t:TypeId} {x hi:Val} {u uh:Value} {eff:Eff} (hx:VR E.H G w x u) (hhi:VR E.H G w hi uh) (hr:ah call st (li E.H id t x hi)=some eff) (hnw:∀ j∈eff.nw,st.u j=false) :
 ∃ u',(Instr.sliceAt t u none (some uh) none).run E.P w=.ok u' w/\db E G st a eff u' w:=by
 unfold li at hr;obtain ⟨e,te,ht,he,hpos,_,hr⟩:=ft hH hr;simp only [run_bind] at hr;obtain ⟨n,h1,hr⟩:=hr;split at hr
 case h_2=>simp only [aa] at hr
 rename_i j hr0;simp only [ax] at hr;split at hr
 case h_2=>simp only [aa] at hr
 rename_i e' lv ver rows hj;simp only [ag,pb,ab,B4,ay,decide_eq_true_eq] at hr;obtain ⟨⟨rfl,p0,p1,p2⟩,rfl⟩:=hr;cases hi <;> simp only [ir,ab,aa] at h1
 rename_i k i;subst h1;simp only [VR] at hhi hx;subst hhi;obtain ⟨hU,rfl,_⟩:=hx;have hlv:lv≠.ap:=fun e=>by subst e; simp [Lv.le] at p0
 obtain ⟨A,cap,q1,q2,q3⟩:=h.trunc (id:=id) hj he (hnw id (by simp)) hlv (n:=i.toNat) (by omega)
 have hsz:=(TyR.of (hH _ _ he)).sizeOf (w:=w);have hb:=kr (P:=E.P) (w:=w) (sl:=true) (len:=rows.length) (cap:=cap) (ulo:=none) (uhi:=some (.int k i)) (lo:=none) (hi:=some i) (.inl ⟨rfl,rfl⟩) (.inr ⟨k,i,rfl,rfl⟩) (by simp) (by simpa using p1) (by simpa using p2) q2
 refine ⟨.slice A i.toNat cap,?_,q3⟩;rw [q1];simp only [Option.getD] at hb;have hA0:(A.map fun x=>x.add 0)=A:=by
  cases A with
  | none=>rfl
  | some ad=>simp [Addr.add]
 simp [Instr.sliceAt,am ht,Instr.slice,hb,hsz,hA0,pure]
theorem Mi (h:Rel E G st a w) (hH:bv E.P E.H) (hQ:Ct E.P E.H) {o:Oper} {key:Key} {eff:Eff} (hr:ah call st (opM E.H key (ev st) o)=some eff) (hnw:∀ j∈eff.nw,st.u j=false) :
 (∃ c f g caps,o.op=.call c/\c.callee=.value f/\ev st f=.fn g caps/\ah call st (Cf E.H key o.dst g (c.args.toList.map (ev st)++caps))=some eff)\/Ran E G st a w o eff:=by
 cases hop:o.op <;> simp only [opM,hop,aa] at hr
 case move x=>exact .inr (Ran.pure_ (s:=pure (a.eval x)) h (by simp only [execOp,hop]; rfl) hr fun v hv=>⟨_,rfl,by simp only [ab] at hv; subst hv; exact h.ev x⟩)
 case assign x=>exact .inr (Ran.pure_ (s:=pure (a.eval x)) h (by simp only [execOp,hop]; rfl) hr fun v hv=>⟨_,rfl,by simp only [ab] at hv; subst hv; exact h.ev x⟩)
 case pick c x y =>
  rw [gn] at hr;obtain ⟨v,hv,rfl⟩:=hr;obtain ⟨t,h1,h2⟩:=Ao (h.ev c) (h.ev x) (h.ev y) hv;exact .inr ⟨.value (if t then a.eval x else a.eval y),_,w,by simp [execOp,hop,h1,asBool,pure],.inl rfl,h.done h2⟩
 case alloc e =>
  obtain ⟨u,w',h1,h2⟩:=yh h hH hr hnw;exact .inr (Ran.val (by simp only [execOp,hop]) h1 h2)
 case box e x =>
  obtain ⟨u,w',h1,h2⟩:=Cr h hH (h.ev x) hr hnw;exact .inr (Ran.val (by simp only [execOp,hop]) h1 h2)
 case build t ps =>
  refine .inr (Ran.pure_ (s:=Instr.build t (ps.map fun p=>(p.1,a.eval p.2))) h (by simp only [execOp,hop]) hr fun v hv=>?_)
  rw [gd];refine yf hH ?_ ?_ hv
  · simp only [G5]; rfl
  · have:=h.evs (ps.toList.map (·.2))
    simpa only [G5,Function.comp_def] using this
 case buildSlice t n ps =>
  have hv:=h.evs (ps.toList.map (·.2))
  obtain ⟨u,w',h1,h2⟩:=pf (us:=ps.toList.map fun p=>(p.1,a.eval p.2)) h hH (by simp only [G5]; rfl) (by simpa only [G5,Function.comp_def] using hv) hr hnw
  refine .inr (Ran.val (s:=Instr.buildSlice t n (ps.map fun p=>(p.1,a.eval p.2))) (by simp only [execOp,hop]) ?_ h2)
  rw [gd]; exact h1
 case makeSlice t l c =>
  obtain ⟨u,w',h1,h2⟩:=qa h hH (h.ev l) (h.ev c) hr hnw;exact .inr (Ran.val (by simp only [execOp,hop]) h1 h2)
 case load t x =>
  cases hsh:dm (E.H.share key) (7000+(o.dst.getD 0)) with
  | true =>
   rw [hsh] at hr;obtain ⟨u,h1,h2⟩:=yl h hH (h.ev x) hr hnw;exact .inr (Ran.val (by simp only [execOp,hop]) h1 h2)
  | false =>
   rw [hsh] at hr;exact .inr (Ran.pure_ h (by simp only [execOp,hop]) hr fun v hv=>ro h hH (h.ev x) hv)
 case store t x y =>
  obtain ⟨w',h1,h2⟩:=wh h hH (h.ev x) (h.ev y) hr;exact .inr ⟨.skip,undef,w',by simp [execOp,hop,h1,pure],.inr ⟨rfl,rfl⟩,h2⟩
 case nilCheck x =>
  rw [gn] at hr;obtain ⟨v,hv,rfl⟩:=hr;obtain ⟨rfl,hh⟩:=rf (h.ev x) hv;refine .inr ⟨.value (a.eval x),_,w,?_,.inl rfl,h.done (h.ev x)⟩;rcases hh with ⟨b,hb⟩|⟨f,vs,hb⟩ <;> simp [execOp,hop,hb,pure]
 case binOp op t x y q =>
  rw [gn] at hr;obtain ⟨v,hv,rfl⟩:=hr;obtain ⟨u',h1,h2,h3⟩:=Cu (ox:=x) (oy:=y) hH hQ (h.ev x) (h.ev y) (fun c hc=>by subst hc; rfl) hv
  exact .inr ⟨.value u',_,w,by simp [execOp,hop,h1,h2,pure],.inl rfl,h.done h3⟩
 case unOp op t x=>exact .inr (Ran.pure_ h (by simp only [execOp,hop]) hr fun v hv=>Hj (h.ev x) hv)
 case convert s d x =>
  refine .inr (Ran.pure_ (s:=Go.convert s d (a.eval x)) h (by simp only [execOp,hop]) hr fun v hv=>?_)
  simp only [ag] at hv;obtain ⟨hs,hv⟩:=hv;obtain ⟨ts,hts⟩:=F6.1 hs;obtain ⟨d',hd',_⟩:=(TyR.of (hH _ _ hts)).und;exact ug h hH (h.ev x) (by rw [hd']; rfl) hv
 case makeFunc fn first caps =>
  cases fn <;> simp only [aa] at hr
  rename_i f;simp only [ag] at hr;obtain ⟨hf,hr⟩:=hr;have hfe:first=#[]:=by simpa using hf
  refine .inr (Ran.pure_ (s:=Instr.makeFunc (.func f) (first.map a.eval) (caps.map a.eval)) h (by simp only [execOp,hop]) hr fun v hv=>?_)
  simp only [ab] at hv;subst hv;subst hfe;refine ⟨_,rfl,?_⟩;simp only [VR];exact ⟨caps.toList.map a.eval,by rw [<- gd]; simp,h.evs caps.toList⟩
 case slice t x lo hi mx =>
  cases mx with
  | some m =>
   cases lo with
   | some l=>simp only [aa] at hr
   | none =>
    cases hi with
    | none=>simp only [aa] at hr
    | some hi =>
     obtain ⟨u,h1,h2⟩:=wi h hH (h.ev x) (h.ev hi) (h.ev m) hr hnw;exact .inr (Ran.val (by simp only [execOp,hop]; rfl) h1 h2)
  | none =>
   have ho:∀ (p:Option Operand),VRO E.H G w (p.map (ev st)) (p.map a.eval):=fun p=>by
    cases p with
    | none=>rfl
    | some p=>exact ⟨_,rfl,h.ev p⟩
   have hr2:(∃ hi',lo=none/\hi=some hi'/\ah call st (li E.H (aw o.dst 0) t (ev st x) (ev st hi'))=some eff)\/ah call st (jn E.H t (ev st x) (lo.map (ev st)) (hi.map (ev st)))=some eff:=by
    cases lo with
    | some l=>exact .inr hr
    | none =>
     cases hi with
     | none=>exact .inr hr
     | some hi =>
      have hr1:ah call st (bif dm (E.H.share key) (8000+(o.dst.getD 0)) then li E.H (aw o.dst 0) t (ev st x) (ev st hi) else jn E.H t (ev st x) none (some (ev st hi)))=some eff:=hr
      cases hsh:dm (E.H.share key) (8000+(o.dst.getD 0)) with
      | true=>rw [hsh] at hr1; exact .inl ⟨hi,rfl,rfl,hr1⟩
      | false=>rw [hsh] at hr1; exact .inr hr1
   rcases hr2 with ⟨hi',rfl,rfl,hr3⟩ | hr3
   · obtain ⟨u,h1,h2⟩:=ym h hH (h.ev x) (h.ev hi') hr3 hnw
     exact .inr (Ran.val (by simp only [execOp,hop]; rfl) h1 h2)
   obtain ⟨u,h1,h2⟩:=yk h hH (h.ev x) (ho lo) (ho hi) hr3;exact .inr (Ran.val (by simp only [execOp,hop]; rfl) h1 h2)
 case fieldAddr t x f=>exact .inr (Ran.pure_ h (by simp only [execOp,hop]) hr fun v hv=>pu hH (h.ev x) hv)
 case field t x f=>exact .inr (Ran.pure_ h (by simp only [execOp,hop]) hr fun v hv=>yj hH (h.ev x) hv)
 case indexAddr t x i=>exact .inr (Ran.pure_ h (by simp only [execOp,hop]) hr fun v hv=>pw h hH (h.ev x) (h.ev i) hv)
 case index t x i =>
  refine .inr (Ran.pure_ (s:=Instr.index t (a.eval x) (a.eval i)) h (by simp only [execOp,hop]) hr fun v hv=>?_)
  simp only [ag] at hv;exact ye (h.ev x) (h.ev i) (zn hH hv.1) hv.2
 case extract x i=>exact .inr (Ran.pure_ (s:=Instr.extract (a.eval x) i) h (by simp only [execOp,hop]) hr fun v hv=>ue (h.ev x) hv)
 case call c =>
  have hbi:∀ (b:Builtin),c.callee=.builtin b->∃ consts,execOp a.eval o=builtin b c.argTypes o.type consts (c.args.map a.eval):=fun b hb=>by
   refine ⟨c.args.map fun | .const _=>true | _=>false,?_⟩
   simp only [execOp,hop,resolve,hb];rfl
  cases hce:c.callee with
  | value f =>
   simp only [hce] at hr;split at hr
   · rename_i g caps hf
     exact .inl ⟨c,f,g,caps,rfl,hce,hf,hr⟩
   · simp only [aa] at hr
  | invoke r m=>simp only [hce,aa] at hr
  | builtin b =>
   obtain ⟨consts,hex⟩:=hbi b hce;refine .inr ?_;have hargs:=h.evs c.args.toList;have hmap:c.args.map a.eval=(c.args.toList.map a.eval).toArray:=gd _ _;cases b <;> simp only [hce,aa] at hr
   case len =>
    split at hr
    · rename_i v t h1 h2
      rw [h1] at hargs;simp only [VRL] at hargs;obtain ⟨u,us,hu,hv,rfl⟩:=hargs;have hat:c.argTypes=[t].toArray:=by rw [<- h2]
      refine Ran.pure_ (s:=Builtin.len_ c.argTypes o.type (c.args.map a.eval)) h (by rw [hex]; rfl) hr fun v' hv'=>?_
      simp only [ag] at hv';obtain ⟨ha,hv'⟩:=hv';rw [hmap,hu,hat];have hk:=Ho hH ha;rcases Ay h hv hv' with ⟨hs,s,rfl,rfl⟩|⟨hs,A,n,cap,rfl,rfl⟩
      · rcases hk with ⟨hn,_⟩|⟨_,hk⟩
        · rw [hs] at hn; simp at hn
        · exact ⟨_,zl hk (.inl ⟨rfl,s,rfl⟩) o.type [] [],by simp only [VR]⟩
      · rcases hk with ⟨_,e',hk⟩|⟨hn,_⟩
        · exact ⟨_,zl hk (.inr ⟨⟨e',rfl⟩,A,n,cap,rfl⟩) o.type [] [],by simp only [VR]⟩
        · rw [hs] at hn; simp at hn
    · simp only [aa] at hr
   case max =>
    split at hr
    · rename_i x y h1
      rw [h1] at hargs;simp only [VRL] at hargs;obtain ⟨u,us,hu,hv,u2,us2,rfl,hv2,rfl⟩:=hargs;refine Ran.pure_ (s:=Builtin.max_ c.argTypes o.type (c.args.map a.eval)) h (by rw [hex]; rfl) hr fun v' hv'=>?_
      obtain ⟨u',k1,k2⟩:=nu hv hv2 hv';rw [hmap,hu];exact ⟨u',by simpa [Builtin.max_] using k1,k2⟩
    · simp only [aa] at hr
   case min =>
    split at hr
    · rename_i x y h1
      rw [h1] at hargs;simp only [VRL] at hargs;obtain ⟨u,us,hu,hv,u2,us2,rfl,hv2,rfl⟩:=hargs;refine Ran.pure_ (s:=Builtin.min_ c.argTypes o.type (c.args.map a.eval)) h (by rw [hex]; rfl) hr fun v' hv'=>?_
      obtain ⟨u',k1,k2⟩:=nu hv hv2 hv';rw [hmap,hu];exact ⟨u',by simpa [Builtin.min_] using k1,k2⟩
    · simp only [aa] at hr
   case append =>
    split at hr
    · rename_i s x t t2 h1 h2
      rw [h1] at hargs;simp only [VRL] at hargs;obtain ⟨u,us,hu,hv,u2,us2,rfl,hv2,rfl⟩:=hargs;have hat:c.argTypes=#[t,t2]:=by
       apply Array.ext'; rw [h2]
      obtain ⟨u',w',k1,k2⟩:=Cw (ty:=o.type) h hH hv hv2 hr hnw;refine Ran.val (s:=Builtin.append_ c.argTypes o.type (c.args.map a.eval)) (by rw [hex]; rfl) ?_ k2
      rw [hmap,hu,hat]; exact k1
    · simp only [aa] at hr
end
end Go.Q
end
section
namespace Go.Q
open Go
section
variable {call call':Key->List D->R}
def Leq (call call':Key->List D->R):Prop:=∀ k l r,call k l=some r->call' k l=some r
theorem cz (hc:Leq call call') {α:Type}:∀ (m:M α) (st:St) (rd:List Nat) {k k':α->List Nat->R} {r:Nat×List D},(∀ a rd r,k a rd=some r->k' a rd=some r)->ex call m st rd k=some r->ex call' m st rd k'=some r
 | .ret a,st,rd,k,k',r,hk,h=>hk _ _ _ h
 | .fail,st,rd,k,k',r,hk,h=>by simp [ex] at h
 | .chk b m,st,rd,k,k',r,hk,h=>by
  simp only [ex] at h ⊢;cases b
  · simp at h
  · exact cz hc m st rd hk h
 | .alt b m n,st,rd,k,k',r,hk,h=>by
  simp only [ex] at h ⊢;cases b
  · exact cz hc n st rd hk h
  · exact cz hc m st rd hk h
 | .get j f,st,rd,k,k',r,hk,h=>by
  simp only [ex] at h ⊢;exact cz hc _ st _ hk h
 | .ask key ls f,st,rd,k,k',r,hk,h=>by
  simp only [ex,E2] at h ⊢;obtain ⟨x,h1,h2⟩:=h;exact ⟨x,hc _ _ _ h1,cz hc _ st rd hk h2⟩
theorem Cy {β:Type} (v:Val) (k:Val->β):Lk v k=k v:=by cases v <;> rfl
def je (H:Tab) (call:Key->List D->R) (key:Key) (draw:Bool) (ops:Array Oper) (bef:Array Nat) (o:Oper) (n:Nat) (fps:List Fp) (st:St) (k:List Fp->St->R):R :=
 ex call (opM H key (ev st) o) st [] fun eff rd =>
  bif (!draw||apart ops (bef.getD n 0) o ⟨n,rd,eff.ups.map (·.1)⟩ fps)&&((match o.dst with | some d=>E7 d st.n | none=>true)&&dw eff.nw&&eff.nw.all fun j=>!st.u j) then
   k (bif draw then ⟨n,rd,eff.ups.map (·.1)⟩::fps else []) (((st.upd eff.ups).mark eff.nw).put o.dst eff.v) else none
def ig (draw:Bool) (ops:Array Oper) (bef:Array Nat) (o:Oper) (n:Nat) (fps:List Fp) (st:St) (k:List Fp->St->R):R :=
 bif !draw||apart ops (bef.getD n 0) o ⟨n,[],[]⟩ fps then k (bif draw then ⟨n,[],[]⟩::fps else []) (st.put o.dst .und) else none
theorem ii {draw:Bool} {ops:Array Oper} {bef:Array Nat} {o:Oper} {n:Nat} {fps:List Fp} {st:St} {k:List Fp->St->R} {r:Nat×List D} (h:ig draw ops bef o n fps st k=some r) :
 (!draw||apart ops (bef.getD n 0) o ⟨n,[],[]⟩ fps)=true/\k (bif draw then ⟨n,[],[]⟩::fps else []) (st.put o.dst .und)=some r:=by
 unfold ig at h;revert h
 generalize (!draw||apart ops (bef.getD n 0) o ⟨n,[],[]⟩ fps)=b
 intro h;cases b
 · simp at h
 · exact ⟨rfl,h⟩
theorem oh {draw:Bool} {ops:Array Oper} {bef:Array Nat} {o:Oper} {n:Nat} {fps:List Fp} {st:St} {k k':List Fp->St->R} {r:Nat×List D} (hk:∀ fps st r,k fps st=some r->k' fps st=some r)
 (h:ig draw ops bef o n fps st k=some r):ig draw ops bef o n fps st k'=some r:=by
 obtain ⟨h1,h2⟩:=ii h;unfold ig;rw [h1];exact hk _ _ _ h2
theorem jf {H:Tab} {key:Key} {draw:Bool} {ops:Array Oper} {bef:Array Nat} {o:Oper} {l:List Oper} {n:Nat} {fps:List Fp} {st:St} {k:St->R} :
 cm H call key draw ops bef (o::l) n fps st k=match o.guard with
  | none=>je H call key draw ops bef o n fps st fun fps st=>cm H call key draw ops bef l n.succ fps st k
  | some (g,want)=>match (ops[g]?).bind (·.dst) with
   | none=>none
   | some tg=>match st.t tg with
    | .und=>ig draw ops bef o n fps st fun fps st=>cm H call key draw ops bef l n.succ fps st k
    | .bool b=>if b=want then je H call key draw ops bef o n fps (st.put (some tg) (.bool b)) fun fps st=>cm H call key draw ops bef l n.succ fps st k
     else ig draw ops bef o n fps (st.put (some tg) (.bool b)) fun fps st=>cm H call key draw ops bef l n.succ fps st k
    | _=>none:=by
 simp only [cm,Cy,je,ig];cases hg:o.guard with
 | none=>rfl
 | some gw =>
  obtain ⟨g,want⟩:=gw;simp only [];cases ht:(ops[g]?).bind (·.dst) with
  | none=>rfl
  | some tg =>
   simp only [];cases hv:st.t tg <;> try rfl
   rename_i b;cases b <;> cases want <;> rfl
theorem qd (hc:Leq call call') {H:Tab} {key:Key} {draw:Bool} {ops:Array Oper} {bef:Array Nat} {o:Oper} {n:Nat} {fps:List Fp} {st:St} {k k':List Fp->St->R} {r:Nat×List D} (hk:∀ fps st r,k fps st=some r->k' fps st=some r)
 (h:je H call key draw ops bef o n fps st k=some r):je H call' key draw ops bef o n fps st k'=some r:=by
 refine cz hc _ st [] (fun eff rd r' h'=>?_) h
 revert h'
 generalize ((!draw||apart ops (bef.getD n 0) o ⟨n,rd,eff.ups.map (·.1)⟩ fps)&&((match o.dst with | some d=>E7 d st.n | none=>true)&&dw eff.nw&&eff.nw.all fun j=>!st.u j))=b
 intro h';cases b
 · simp at h'
 · exact hk _ _ _ h'
theorem oi (hc:Leq call call') {H:Tab} {key:Key} {draw:Bool} {ops:Array Oper} {bef:Array Nat}:∀ (l:List Oper) (n:Nat) (fps:List Fp) (st:St) {k k':St->R} {r:Nat×List D},(∀ st r,k st=some r->k' st=some r) →
 cm H call key draw ops bef l n fps st k=some r->cm H call' key draw ops bef l n fps st k'=some r
 | [],n,fps,st,k,k',r,hk,h=>hk _ _ h
 | o::l,n,fps,st,k,k',r,hk,h=>by
  have ih:=fun n fps st r=>oi hc l n fps st hk (H:=H) (key:=key) (draw:=draw) (ops:=ops) (bef:=bef) (r:=r)
  rw [jf] at h ⊢;split at h
  · rename_i hg
    exact qd hc (fun fps st r h=>ih _ _ _ _ h) h
  · rename_i g want hg
    split at h
    · simp at h
    · rename_i tg ht
      split at h
      · exact oh (fun fps st r h=>ih _ _ _ _ h) h
      · rename_i b hb
        split at h
        · rename_i hbw
          rw [H5 hbw];exact qd hc (fun fps st r h=>ih _ _ _ _ h) h
        · rename_i hbw
          rw [H6 hbw];exact oh (fun fps st r h=>ih _ _ _ _ h) h
      · simp at h
theorem oj {nt:Nat} {x:Nat×List D} {k k':Exit->St->R} (hk:∀ e st r,k e st=some r->k' e st=some r):∀ (xs:List XS) (n:Nat) {r:Nat×List D},cn nt x k xs n=some r->cn nt x k' xs n=some r
 | [],n,r,h=>by simp [cn] at h
 | [y],n,r,h=>by
  simp only [cn] at h ⊢;cases hb:C2 x.1 n with
  | true=>rw [hb] at h; exact hk _ _ _ h
  | false=>rw [hb] at h; simp at h
 | y::z::xs,n,r,h=>by
  simp only [cn] at h ⊢;cases hb:C2 x.1 n with
  | true=>rw [hb] at h; exact hk _ _ _ h
  | false=>rw [hb] at h; exact oj hk (z::xs) n.succ h
theorem lx (hc:Leq call call') {H:Tab} {key:Key} {i:KI} {st:St} {k k':Exit->St->R} {r:Nat×List D} (hk:∀ e st r,k e st=some r->k' e st=some r) (h:gy H call key i st k=some r):gy H call' key i st k'=some r:=by
 unfold gy at h ⊢;refine cz hc _ st [] (fun ls rd r' h'=>?_) h
 simp only [E2] at h' ⊢;obtain ⟨x,h1,h2⟩:=h';exact ⟨x,hc _ _ _ h1,oj hk _ _ h2⟩
theorem bn (hc:Leq call call') {H:Tab} {f v:Nat}:∀ (c:Code) (st:St) {k k':Exit->St->R} {r:Nat×List D},(∀ e st r,k e st=some r->k' e st=some r)->bx H call f v c st k=some r->bx H call' f v c st k'=some r
 | .skip,st,k,k',r,hk,h=>by simp only [bx] at h ⊢; exact hk _ _ _ h
 | .exit id,st,k,k',r,hk,h=>by simp only [bx] at h ⊢; exact hk _ _ _ h
 | .ret,st,k,k',r,hk,h=>by simp only [bx] at h ⊢; exact hk _ _ _ h
 | .scope b,st,k,k',r,hk,h=>by
  simp only [bx] at h ⊢;refine bn hc b st (fun e st r h=>?_) h
  cases e <;> simp only at h ⊢ <;> first | exact hk _ _ _ h | (simp at h; done)
 | .region id ops draw,st,k,k',r,hk,h=>by
  simp only [bx] at h ⊢;exact oi hc _ _ _ _ (fun st r h=>hk _ _ _ h) h
 | .seq a b,st,k,k',r,hk,h=>by
  simp only [bx] at h ⊢;refine bn hc a st (fun e st r h=>?_) h
  cases e <;> simp only at h ⊢ <;> first | exact bn hc b st hk h | exact hk _ _ _ h
 | .block id body,st,k,k',r,hk,h=>by
  simp only [bx] at h ⊢;split at h
  · rename_i i hi
    exact lx hc hk h
  · rename_i hi
    refine bn hc body st (fun e st r h=>?_) h
    cases e <;> simp only at h ⊢ <;> try exact hk _ _ _ h
    rename_i id';cases hb:C2 id' id <;> rw [hb] at h <;> exact hk _ _ _ h
 | .cond c a b,st,k,k',r,hk,h=>by
  cases c with
  | tmp t =>
   simp only [bx] at h ⊢;split at h
   · rename_i i hi
     exact lx hc hk h
   · rename_i hi
     cases hv:st.t t <;> simp only [hv] at h ⊢ <;> try (simp at h; done)
     rotate_left
     · obtain ⟨h1,h2⟩:=vv h
       rw [bn hc a _ hk h1,bn hc b _ hk h2,Al]
     rename_i x;cases x
     · exact bn hc b _ hk h
     · exact bn hc a _ hk h
  | _ =>
   simp only [bx] at h ⊢;split at h
   · rename_i x hx
     cases x
     · exact bn hc b _ hk h
     · exact bn hc a _ hk h
   · simp at h
 | .loop _,st,k,k',r,hk,h=>by simp [bx] at h
 | .rangeFunc _ _ _ _,st,k,k',r,hk,h=>by simp [bx] at h
 | .label _,st,k,k',r,hk,h=>by simp [bx] at h
 | .goto _,st,k,k',r,hk,h=>by simp [bx] at h
theorem fu (hc:Leq call call') {H:Tab}:∀ (xs:List XS) (n:Nat) (e:Exit) (st:St) {r:Nat×List D},ea H call xs n e st=some r->ea H call' xs n e st=some r
 | [],n,e,st,r,h=>by simp [ea] at h
 | x::xs,n,e,st,r,h=>by
  simp only [ea] at h ⊢;cases hb:ekB x.e e with
  | true=>rw [hb] at h; exact cz hc _ st [] (fun _ _ _ h=>h) h
  | false=>rw [hb] at h; exact fu hc xs n.succ e st h
theorem js (hc:Leq call call') {H:Tab} {P:Program} {key:Key} {ls:List D} {r:Nat×List D} (h:step H call P key ls=some r):step H call' P key ls=some r:=by
 unfold step at h ⊢;split at h
 · exact h
 split at h
 · simp at h
 split at h
 · simp at h
 rename_i c hc2;cases hok:fm H key.f key.v c with
 | false=>rw [hok] at h; simp at h
 | true =>
  rw [hok] at h;simp only [H1] at h ⊢;split at h
  · simp at h
  rename_i i hi;split at h
  · rename_i fn _ _ _ _ _
    cases hb:lc (i.pars.map (·.1)) 0&&J1 (len i.pars) fn.ntmps with
    | false=>rw [hb] at h; simp at h
    | true =>
     rw [hb] at h;simp only [H1] at h ⊢;refine bn hc c _ (fun e st r h=>?_) h
     cases e <;> simp only at h ⊢ <;> first | exact cz hc _ st [] (fun _ _ _ h=>h) h | exact h
  · rename_i id hid
    cases hb:J1 id 998 with
    | true =>
     rw [hb] at h;simp only [H1] at h ⊢;split at h
     · refine bn hc _ _ (fun e st r h=>?_) h
       cases e <;> simp only at h ⊢ <;> first | exact cz hc _ st [] (fun _ _ _ h=>hc _ _ _ h) h | exact fu hc _ _ _ _ h
     · refine bn hc _ _ (fun e st r h=>?_) h
       cases e <;> simp only at h ⊢ <;> exact fu hc _ _ _ _ h
     · simp at h
    | false =>
     rw [hb] at h;simp only [H2] at h ⊢;split at h
     · split at h
       · rename_i x hx
         cases x
         · exact bn hc _ _ (fun e st r h=>fu hc _ _ _ _ h) h
         · exact bn hc _ _ (fun e st r h=>fu hc _ _ _ _ h) h
       · simp at h
     · simp at h
def uj (H:Tab) (P:Program) (T:Key->List D->Nat×List D->Prop):Prop:=∀ call:Key->List D->R,(∀ k l r,call k l=some r->T k l r)->∀ k l r,step H call P k l=some r->T k l r
def wj (H:Tab) (P:Program) (k:Key) (l:List D) (r:Nat×List D):Prop:=∀ T,uj H P T->T k l r
theorem jg (H:Tab) (P:Program):uj H P (wj H P):=fun call hc k l r hr T hT=>hT call (fun k l r h=>hc k l r h T hT) k l r hr
theorem Cz {H:Tab} {P:Program} {k:Key} {l:List D} {r:Nat×List D} (h:wj H P k l r):∀ r',wj H P k l r'->r'=r:=by
 refine h (fun k l r=>∀ r',wj H P k l r'->r'=r) fun call hc k l r hr r' hr'=>?_
 refine (hr' (fun k' l' r2=>wj H P k' l' r2/\(k'=k->l'=l->r2=r)) fun call2 hc2 k' l' r2 hr2=>⟨jg H P call2 (fun k l r h=>(hc2 k l r h).1) k' l' r2 hr2,fun ek el=>?_⟩).2 rfl rfl
 subst ek; subst el;let j:Key->List D->R:=fun k l=>match call k l with | some x=>some x | none=>call2 k l
 have h1:Leq call j:=fun k l r h=>by simp only [j,h]
 have h2:Leq call2 j:=fun k l r h=>by
  simp only [j];cases hq:call k l with
  | none=>exact h
  | some x=>rw [hc k l x hq r (hc2 k l r h).1]
 have e1:=js h1 hr;have e2:=js h2 hr2;rw [e1] at e2;simpa using e2.symm
open Classical in
noncomputable def run (H:Tab) (P:Program) (k:Key) (l:List D):R:=if h:∃ r,wj H P k l r then some h.choose else none
theorem Mj {H:Tab} {P:Program} {k:Key} {l:List D} {r:Nat×List D} (h:wj H P k l r):run H P k l=some r:=by
 have hex:∃ r,wj H P k l r:=⟨r,h⟩;unfold run;rw [dif_pos hex];exact congrArg some (Cz h _ hex.choose_spec)
theorem my {H:Tab} {P:Program} {T:Key->List D->Nat×List D->Prop} (hT:uj H P T) {k:Key} {l:List D} {r:Nat×List D} (h:run H P k l=some r):T k l r:=by
 unfold run at h;split at h
 · rename_i hex
   simp only [B7.injEq] at h;subst h;exact hex.choose_spec T hT
 · simp at h
theorem yn {H:Tab} {P:Program} {k:Key} {l:List D} {r:Nat×List D} (h:step H (run H P) P k l=some r):run H P k l=some r :=
 Mj (jg H P (run H P) (fun k l r hr=>my (jg H P) hr) k l r h)
theorem Mk (H:Tab) (P:Program) (key:Key) (ls:List D):run H P key ls=step H (run H P) P key ls:=by
 cases hs:step H (run H P) P key ls with
 | some r=>exact yn hs
 | none =>
  cases hr:run H P key ls with
  | none=>rfl
  | some r =>
   have:step H (run H P) P key ls=some r:=my (T:=fun k l r=>step H (run H P) P k l=some r) (fun call hc k l r h=>js (fun k l r hq=>yn (hc k l r hq)) h) hr
   rw [hs] at this;simp at this
end
end Go.Q
end
section
namespace Go.Q
open Go
inductive Sub (x:Code):Code->Prop
 | refl:Sub x x
 | seqL {a b}:Sub x a->Sub x (.seq a b)
 | seqR {a b}:Sub x b->Sub x (.seq a b)
 | condL {c a b}:Sub x a->Sub x (.cond c a b)
 | condR {c a b}:Sub x b->Sub x (.cond c a b)
 | block {i b}:Sub x b->Sub x (.block i b)
 | loop {b}:Sub x b->Sub x (.loop b)
 | scope {b}:Sub x b->Sub x (.scope b)
theorem Sub.trans {x y z:Code} (h:Sub x y) (k:Sub y z):Sub x z:=by
 induction k with
 | refl=>exact h
 | seqL _ ih=>exact .seqL ih
 | seqR _ ih=>exact .seqR ih
 | condL _ ih=>exact .condL ih
 | condR _ ih=>exact .condR ih
 | block _ ih=>exact .block ih
 | loop _ ih=>exact .loop ih
 | scope _ ih=>exact .scope ih
theorem az (x:Nat):∀ (l l':List Nat),cnt x (l++l')=cnt x l+cnt x l'
 | [],l'=>by simp [cnt]
 | y::l,l'=>by
  simp only [List.cons_append,cnt,az x l l'];cases C2 x y <;> simp; omega
theorem gq (x y:Nat) (l:List Nat):cnt x (y::l)=(if x=y then 1 else 0)+cnt x l:=by
 simp only [cnt];by_cases h:x=y
 · subst h; simp [ay.2 rfl]; omega
 · simp [bf.2 h,h]
theorem bg {id:Nat}:∀ (c:Code),cnt id (ao c)=0->findBlock id c=none
 | .seq a b,h=>by
  simp only [ao,az] at h;simp only [findBlock,bg (id:=id) a (by omega),bg (id:=id) b (by omega)]
 | .cond t a b,h=>by
  simp only [ao,az] at h;simp only [findBlock,bg (id:=id) a (by omega),bg (id:=id) b (by omega)]
 | .block i b,h=>by
  simp only [ao,gq] at h;have hne:i≠id:=fun e=>by rw [H5 e.symm] at h; omega
  simp only [findBlock,bf.2 hne,H2];exact bg b (by omega)
 | .loop b,h=>by simp only [ao] at h; simp only [findBlock]; exact bg b h
 | .scope b,h=>by simp only [ao] at h; simp only [findBlock]; exact bg b h
 | .skip,_=>rfl
 | .region _ _ _,_=>rfl
 | .rangeFunc _ _ _ _,_=>rfl
 | .exit _,_=>rfl
 | .ret,_=>rfl
 | .label _,_=>rfl
 | .goto _,_=>rfl
 | .refuse _,_=>rfl
theorem Sub.block_cnt {id:Nat} {b c:Code} (h:Sub (.block id b) c):1<=cnt id (ao c):=by
 induction h with
 | refl=>simp only [ao,gq,if_true]; omega
 | seqL _ ih=>simp only [ao,az]; omega
 | seqR _ ih=>simp only [ao,az]; omega
 | condL _ ih=>simp only [ao,az]; omega
 | condR _ ih=>simp only [ao,az]; omega
 | block _ ih=>simp only [ao,gq]; omega
 | loop _ ih=>exact ih
 | scope _ ih=>exact ih
theorem Sub.findBlock {id:Nat} {b c:Code} (h:Sub (.block id b) c) (hu:cnt id (ao c)=1):Q.findBlock id c=some b:=by
 induction h with
 | refl=>simp only [Q.findBlock,ay.2 rfl,H1]
 | seqL h ih =>
  simp only [ao,az] at hu;have:=h.block_cnt;simp only [Q.findBlock,ih (by omega)]
 | @seqR a' b' h ih =>
  simp only [ao,az] at hu;have:=h.block_cnt;have h0:cnt id (ao a')=0:=by omega
  simp only [Q.findBlock,bg (id:=id) _ h0,ih (by omega)]
 | condL h ih =>
  simp only [ao,az] at hu;have:=h.block_cnt;simp only [Q.findBlock,ih (by omega)]
 | @condR o a' b' h ih =>
  simp only [ao,az] at hu;have:=h.block_cnt;have h0:cnt id (ao a')=0:=by omega
  simp only [Q.findBlock,bg (id:=id) _ h0,ih (by omega)]
 | @block i b' h ih =>
  simp only [ao,gq] at hu;have:=h.block_cnt;have hne:i≠id:=fun e=>by rw [H5 e.symm] at hu; omega
  simp only [Q.findBlock,bf.2 hne,H2];exact ih (by omega)
 | loop h ih=>exact ih hu
 | scope h ih=>exact ih hu
def isT (t:Nat):Operand->Bool | .tmp t'=>C2 t t' | _=>false
theorem dq (t:Nat) (o:Operand) (a b:Code):cnt t (bd (.cond o a b))=(if isT t o then 1 else 0)+(cnt t (bd a)+cnt t (bd b)):=by
 cases o with
 | tmp t' =>
  simp only [bd,gq,az];by_cases h:t=t'
  · subst h; have:isT t (.tmp t)=true:=ay.2 rfl
    simp [this]
  · have:isT t (.tmp t')=false:=bf.2 h
    simp [this,h]
 | _=>simp [bd,az,isT]
theorem em (t:Nat) (o:Operand) (a b:Code) (h:isT t o=false):findCond t (.cond o a b)=(findCond t a).orElse fun _=>findCond t b:=by
 cases o with
 | tmp t' =>
  simp only [isT] at h;simp only [findCond,h,H2];cases findCond t a <;> rfl
 | _ =>
  simp only [findCond];cases findCond t a <;> rfl
theorem bt {t:Nat}:∀ (c:Code),cnt t (bd c)=0->findCond t c=none
 | .seq a b,h=>by
  simp only [bd,az] at h;simp only [findCond,bt (t:=t) a (by omega),bt (t:=t) b (by omega)]
 | .cond o a b,h=>by
  rw [dq] at h;have ho:isT t o=false:=by cases e:isT t o with | false=>rfl | true=>rw [e] at h; simp at h
  rw [em _ _ _ _ ho,bt (t:=t) a (by omega)]
  exact bt b (by omega)
 | .block i b,h=>by simp only [bd] at h; simp only [findCond]; exact bt b h
 | .loop b,h=>by simp only [bd] at h; simp only [findCond]; exact bt b h
 | .scope b,h=>by simp only [bd] at h; simp only [findCond]; exact bt b h
 | .skip,_=>rfl
 | .region _ _ _,_=>rfl
 | .rangeFunc _ _ _ _,_=>rfl
 | .exit _,_=>rfl
 | .ret,_=>rfl
 | .label _,_=>rfl
 | .goto _,_=>rfl
 | .refuse _,_=>rfl
theorem Sub.cond_cnt {t:Nat} {a b c:Code} (h:Sub (.cond (.tmp t) a b) c):1<=cnt t (bd c):=by
 induction h with
 | refl=>rw [dq,show isT t (.tmp t)=true from ay.2 rfl]; simp
 | seqL _ ih=>simp only [bd,az]; omega
 | seqR _ ih=>simp only [bd,az]; omega
 | condL _ ih=>rw [dq]; omega
 | condR _ ih=>rw [dq]; omega
 | block _ ih=>exact ih
 | loop _ ih=>exact ih
 | scope _ ih=>exact ih
theorem Sub.findCond {t:Nat} {a b c:Code} (h:Sub (.cond (.tmp t) a b) c) (hu:cnt t (bd c)=1):Q.findCond t c=some (a,b):=by
 induction h with
 | refl=>simp only [Q.findCond,ay.2 rfl,H1]
 | seqL h ih =>
  simp only [bd,az] at hu;have:=h.cond_cnt;simp only [Q.findCond,ih (by omega)]
 | @seqR a' b' h ih =>
  simp only [bd,az] at hu;have:=h.cond_cnt;have h0:cnt t (bd a')=0:=by omega
  simp only [Q.findCond,bt (t:=t) _ h0,ih (by omega)]
 | @condL o a' b' h ih =>
  rw [dq] at hu;have:=h.cond_cnt;have ho:isT t o=false:=by cases e:isT t o with | false=>rfl | true=>rw [e] at hu; simp at hu; omega
  rw [em _ _ _ _ ho,ih (by omega)]; rfl
 | @condR o a' b' h ih =>
  rw [dq] at hu;have:=h.cond_cnt;have ho:isT t o=false:=by cases e:isT t o with | false=>rfl | true=>rw [e] at hu; simp at hu; omega
  have h0:cnt t (bd a')=0:=by omega
  rw [em _ _ _ _ ho,bt (t:=t) _ h0];exact ih (by omega)
 | block h ih=>exact ih hu
 | loop h ih=>exact ih hu
 | scope h ih=>exact ih hu
theorem ij {id:Nat}:∀ {l:List Nat},1<=cnt id l->id∈l
 | [],h=>by simp [cnt] at h
 | y::l,h=>by
  rw [gq] at h;by_cases e:id=y
  · subst e; exact B5 ..
  · rw [H6 e] at h; exact B6 _ (ij (by omega))
theorem uk {H:Tab} {f v:Nat} {c b:Code} {id:Nat} {i:KI} (h:fm H f v c=true) (hs:Sub (.block id b) c) (hi:H.ki ⟨f,v,id+1⟩=some i):id<=998/\findBlock id c=some b:=by
 simp only [fm,B4,C6] at h;have:=h.1 id (ij hs.block_cnt);rw [hi] at this;simp only [B4,dn,ay] at this;exact ⟨this.1,hs.findBlock this.2⟩
theorem wk {H:Tab} {f v:Nat} {c a b:Code} {t:Nat} {i:KI} (h:fm H f v c=true) (hs:Sub (.cond (.tmp t) a b) c) (hi:H.ki ⟨f,v,1000+t⟩=some i):findCond t c=some (a,b):=by
 simp only [fm,B4,C6] at h;have:=h.2 t (ij hs.cond_cnt);rw [hi] at this;simp only [ay] at this;exact hs.findCond this
end Go.Q
end
section
namespace Go.Q
open Go
open Go.RowKit (Below)
structure Ren (G G':Gh) (sg:List (Nat×Tgt)):Prop where
 obj:∀ c j,(c,Tgt.obj j)∈sg->G.U j->G'.U c/\G'.hv c=G.hv j/\G'.bm c=G.bm j/\G'.ly c=G.ly j
 new:∀ c,(c,Tgt.new)∈sg->G'.U c/\G'.hv c=.slice none 0 0
theorem Ren.left {G G':Gh} {sg t:List (Nat×Tgt)} (h:Ren G G' (sg++t)):Ren G G' sg:=⟨fun c j hm=>h.obj c j (by simp [hm]),fun c hm=>h.new c (by simp [hm])⟩
def rq (H:Tab) (G:Gh) (st:St) (F:Fz) (w:World) (fz:List Nat):Prop :=
 ∀ j∈fz,∀ e lv ver rows,st.o j=some (.arr e lv ver rows none)->(∃ B,RC H w F (.sl rows) (.sl e) (G.hv j) B) ∧
  (lv=.deep->∀ i c e',i<rows.length->(G.ly j)[c]?=some (.sl e')->∃ B,RC H w F (.sl (nth (rowAt rows i) c).L) (.sl e') (G.nh j ver i c) B)
def Rds (r:List D) (n:Nat) (ls:List D):Prop:=∀ i d,ls[i]?=some d->nth r (n+i)=d
theorem Rds.left {r ls ls':List D} {n:Nat} (h:Rds r n (ls++ls')):Rds r n ls:=fun i d hi=>h i d (by rw [D2 (B9.1 hi).1]; exact hi)
theorem Rds.right {r ls ls':List D} {n:Nat} (h:Rds r n (ls++ls')):Rds r (n+ls.length) ls':=fun i d hi=>by
 have:=h (ls.length+i) d (by rw [D3 (by omega),show ls.length+i-ls.length=i by omega]; exact hi)
 rwa [<- Nat.add_assoc] at this
theorem Rds.one {r:List D} {n:Nat} {d:D} (h:Rds r n [d]):nth r n=d:=by simpa using h 0 d rfl
section
variable {call:Key->List D->R} {E:Env} {G G0:Gh} {st st0:St} {a:Act} {w:World}
structure fw (E:Env) (G:Gh) (st:St) (w:World) (s s':FS) (ls:List D) (K:Gh->List D->Nat->Prop):Prop where
 sg:∃ t,s'.sg=s.sg++t
 fz:∀ j∈s.fz,j∈s'.fz
 out:∀ G',Ren G G' s'.sg->rq E.H G st G'.F w s'.fz->(∀ b o,G.F b o->G'.F b o)->∀ r n,Rds r n ls->K G' r n
theorem qe {s s':FS} {c:Nat} {t:Tgt} (h:s.asg c t=some s'):(∃ t',s'.sg=s.sg++t')/\s'.fz=s.fz/\(c,t)∈s'.sg:=by
 unfold FS.asg at h;have lk:∀ {l:List (Nat×Tgt)} {x:Tgt},ai l c=some x->(c,x)∈l:=fun {l x} hl=>by
  induction l with
  | nil=>simp [ai] at hl
  | cons p l ih =>
   obtain ⟨k,y⟩:=p;simp only [ai] at hl;cases hb:C2 k c with
   | true=>rw [hb] at hl; simp only [H1,B7.injEq] at hl; subst hl; rw [ay.1 hb]; exact B5 ..
   | false=>rw [hb] at hl; exact B6 _ (ih hl)
 split at h
 · simp only [B7.injEq] at h; subst h; exact ⟨⟨_,rfl⟩,rfl,by simp⟩
 · rename_i j hl
   cases t with
   | new=>simp at h
   | obj j' =>
    simp only at h;cases hb:C2 j j' with
    | true =>
     rw [hb] at h;simp only [H1,B7.injEq] at h;subst h;obtain rfl:=ay.1 hb;exact ⟨⟨[],by simp⟩,rfl,lk hl⟩
    | false=>rw [hb] at h; simp at h
 · simp at h
theorem fw.refl_ {s:FS} {ls:List D} {K:Gh->List D->Nat->Prop} (h:∀ G',(∀ b o,G.F b o->G'.F b o)->∀ r n,Rds r n ls->K G' r n):fw E G st w s s ls K :=
 ⟨⟨[],by simp⟩,fun _=>id,fun G' _ _ hf r n hr=>h G' hf r n hr⟩
mutual
theorem Ml (h:Rel E G st a w):∀ (sh:Sh) {v:Val} {u:Value} {s s':FS} {ls:List D},VR E.H G w v u->ah call st (flV E.H sh v s)=some (ls,s') →
 fw E G st w s s' ls (fun G' r n=>VR E.H G' w (unV (fun c=>c) r sh n).1 u/\(unV (fun c=>c) r sh n).2=n+ls.length)
 | .int k,v,u,s,s',ls,hv,hr=>by
  cases v <;> simp only [flV,aa,ag,ab,C8.injEq,decide_eq_true_eq] at hr
  obtain ⟨rfl,rfl,rfl⟩:=hr;exact fw.refl_ fun G' hf r n hr=>⟨by simp only [unV,hr.one,D.I,VR] at hv ⊢; exact hv,by simp [unV]⟩
 | .bool,v,u,s,s',ls,hv,hr=>by
  cases v <;> simp only [flV,aa,ab,C8.injEq] at hr
  obtain ⟨rfl,rfl⟩:=hr;exact fw.refl_ fun G' hf r n hr=>⟨by simp only [unV,hr.one,D.B,VR] at hv ⊢; exact hv,by simp [unV]⟩
 | .tt,v,u,s,s',ls,hv,hr=>by
  cases v <;> simp only [flV,aa,ag,ab,C8.injEq] at hr
  obtain ⟨rfl,rfl,rfl⟩:=hr;exact fw.refl_ fun G' hf r n hr=>⟨by simp only [unV,VR] at hv ⊢; exact hv,by simp [unV]⟩
 | .ff,v,u,s,s',ls,hv,hr=>by
  cases v <;> simp only [flV,aa,ag,ab,C8.injEq,C5] at hr
  obtain ⟨rfl,rfl,rfl⟩:=hr;exact fw.refl_ fun G' hf r n hr=>⟨by simp only [unV,VR] at hv ⊢; exact hv,by simp [unV]⟩
 | .str,v,u,s,s',ls,hv,hr=>by
  cases v <;> simp only [flV,aa,ab,C8.injEq] at hr
  obtain ⟨rfl,rfl⟩:=hr;exact fw.refl_ fun G' hf r n hr=>⟨by simp only [unV,hr.one,D.S,VR] at hv ⊢; exact hv,by simp [unV]⟩
 | .nilp,v,u,s,s',ls,hv,hr=>by
  cases v <;> simp only [flV,aa,ab,C8.injEq] at hr
  obtain ⟨rfl,rfl⟩:=hr;exact fw.refl_ fun G' hf r n hr=>⟨by simp only [unV,VR] at hv ⊢; exact hv,by simp [unV]⟩
 | .nils,v,u,s,s',ls,hv,hr=>by
  cases v <;> simp only [flV,aa,ab,C8.injEq] at hr
  obtain ⟨rfl,rfl⟩:=hr;exact fw.refl_ fun G' hf r n hr=>⟨by simp only [unV,VR] at hv ⊢; exact hv,by simp [unV]⟩
 | .err,v,u,s,s',ls,hv,hr=>by
  cases v <;> simp only [flV,aa,ab,C8.injEq] at hr
  obtain ⟨rfl,rfl⟩:=hr;exact fw.refl_ fun G' hf r n hr=>⟨by simp only [unV,hr.one,D.B,VR] at hv ⊢; exact hv,by simp [unV]⟩
 | .dead,v,u,s,s',ls,hv,hr=>by
  simp only [flV,ab,C8.injEq] at hr;obtain ⟨rfl,rfl⟩:=hr;exact fw.refl_ fun G' hf r n hr=>⟨by simp only [unV,VR],by simp [unV]⟩
 | .im e,v,u,s,s',ls,hv,hr=>by
  cases v <;> simp only [flV,aa] at hr
  case im e' rows =>
   simp only [ag,ab,C8.injEq,ay] at hr;obtain ⟨rfl,rfl,rfl⟩:=hr;refine fw.refl_ fun G' hf r n hr=>⟨?_,by simp [unV]⟩
   simp only [unV,hr.one,D.L,VR] at hv ⊢;obtain ⟨B,hv⟩:=hv;exact ⟨B,RC.mono _ _ _ _ (fun b _ q hq=>⟨hf b q hq,rfl⟩) hv⟩
  case nils =>
   simp only [ag,ab,C8.injEq] at hr;obtain ⟨he,rfl,rfl⟩:=hr;obtain ⟨te,hte⟩:=F6.1 he;refine fw.refl_ fun G' hf r n hr=>⟨?_,by simp [unV]⟩
   simp only [unV,hr.one,D.L,VR,RC] at hv ⊢;obtain ⟨A,rfl,_⟩:=hv;exact ⟨[],e,te,A,0,rfl,hte,rfl,.no (D1 _) G'.nA,.inl (by simp)⟩
  case hd j =>
   simp only [ax] at hr;split at hr
   case h_2=>simp only [aa] at hr
   rename_i e' lv ver rows hj;simp only [ag,ab,C8.injEq,ay] at hr;obtain ⟨rfl,rfl,rfl⟩:=hr;simp only [VR] at hv;obtain ⟨hU,rfl,_⟩:=hv;refine ⟨⟨[],by simp⟩,fun i hi=>by simp [hi],fun G' _ hz hf r n hr=>⟨?_,by simp [unV]⟩⟩
   simp only [unV,hr.one,D.L,VR];exact (hz j (by simp) e lv ver rows hj).1
  case hn j ver i c e' =>
   simp only [ax] at hr;split at hr
   case h_2=>simp only [aa] at hr
   rename_i e0 ver' rs hj;simp only [ag,ab,C8.injEq,ay,B4] at hr;obtain ⟨⟨rfl,rfl⟩,rfl,rfl⟩:=hr;simp only [VR] at hv;obtain ⟨hU,hvm,rfl,_,hc,A,m,cp,hv,hi'⟩:=hv;have ho:=(h.objs _ _ hj).2;have hm:m=rs.length:=by
    simp only [OR] at ho;obtain ⟨ti',A,cap,_,_,_,_,h4,_⟩:=ho;rw [hv] at h4; simp at h4; exact h4.2.1
   refine ⟨⟨[],by simp⟩,fun i hi=>by simp [hi],fun G' _ hz hf r n hr=>⟨?_,by simp [unV]⟩⟩
   simp only [unV,hr.one,D.L,VR];exact (hz j (by simp) e0 .deep ver rs hj).2 rfl i c e (by omega) hc
 | .hd c,v,u,s,s',ls,hv,hr=>by
  cases v <;> simp only [flV,aa] at hr
  case nils =>
   split at hr
   case h_2=>simp only [aa] at hr
   rename_i s1 hs1;simp only [ab,C8.injEq] at hr;obtain ⟨rfl,rfl⟩:=hr;obtain ⟨k1,k2,k3⟩:=qe hs1;refine ⟨k1,fun j hj=>by rw [k2]; exact hj,fun G' hren _ _ r n _=>⟨?_,by simp [unV]⟩⟩
   simp only [VR] at hv;obtain ⟨A,rfl,rfl⟩:=hv;obtain ⟨q1,q2⟩:=hren.new c k3;simp only [unV,VR];exact ⟨q1,q2.symm,rfl⟩
  case hd j =>
   split at hr
   case h_2=>simp only [aa] at hr
   rename_i s1 hs1;simp only [ab,C8.injEq] at hr;obtain ⟨rfl,rfl⟩:=hr;obtain ⟨k1,k2,k3⟩:=qe hs1;refine ⟨k1,fun j hj=>by rw [k2]; exact hj,fun G' hren _ _ r n _=>⟨?_,by simp [unV]⟩⟩
   simp only [VR] at hv;obtain ⟨hU,rfl,h1⟩:=hv;obtain ⟨q1,q2,_⟩:=hren.obj c j k3 hU;simp only [unV,VR];exact ⟨q1,q2.symm,h1⟩
 | .bp c off,v,u,s,s',ls,hv,hr=>by
  cases v <;> simp only [flV,aa] at hr
  rename_i j off';split at hr
  case h_2=>simp only [aa] at hr
  rename_i s1 hs1;simp only [ag,ab,C8.injEq,ay] at hr;obtain ⟨rfl,rfl,rfl⟩:=hr;obtain ⟨k1,k2,k3⟩:=qe hs1;refine ⟨k1,fun j hj=>by rw [k2]; exact hj,fun G' hren _ _ r n _=>⟨?_,by simp [unV]⟩⟩
  simp only [VR] at hv;obtain ⟨hU,rfl⟩:=hv;obtain ⟨q1,_,q2,_⟩:=hren.obj c j k3 hU;simp only [unV,VR];exact ⟨q1,by rw [q2]⟩
 | .bq c off,v,u,s,s',ls,hv,hr=>by
  cases v
  case bp j off' =>
   simp only [flV] at hr;split at hr
   case h_2=>simp only [aa] at hr
   rename_i s1 hs1;simp only [ag,ab,C8.injEq,ay] at hr;obtain ⟨rfl,rfl,rfl⟩:=hr;obtain ⟨k1,k2,k3⟩:=qe hs1;refine ⟨k1,fun j hj=>by rw [k2]; exact hj,fun G' hren _ _ r n _=>⟨?_,by simp [unV]⟩⟩
   simp only [VR] at hv;obtain ⟨hU,rfl⟩:=hv;obtain ⟨q1,_,q2,_⟩:=hren.obj c j k3 hU;simp only [unV,VR];exact .inr ⟨q1,by rw [q2]⟩
  case bq j off' =>
   simp only [flV] at hr;split at hr
   case h_2=>simp only [aa] at hr
   rename_i s1 hs1;simp only [ag,ab,C8.injEq,ay] at hr;obtain ⟨rfl,rfl,rfl⟩:=hr;obtain ⟨k1,k2,k3⟩:=qe hs1;refine ⟨k1,fun j hj=>by rw [k2]; exact hj,fun G' hren _ _ r n _=>⟨?_,by simp [unV]⟩⟩
   simp only [VR] at hv;simp only [unV,VR];rcases hv with rfl | ⟨hU,rfl⟩
   · exact .inl rfl
   · obtain ⟨q1,_,q2,_⟩:=hren.obj c j k3 hU
     exact .inr ⟨q1,by rw [q2]⟩
  case nilp =>
   simp only [flV,ab,C8.injEq] at hr;obtain ⟨rfl,rfl⟩:=hr;exact fw.refl_ fun G' hf r n hr=>⟨by simp only [unV,VR] at hv ⊢; exact .inl hv,by simp [unV]⟩
  all_goals simp only [flV,aa] at hr
 | .fn f cs,v,u,s,s',ls,hv,hr=>by
  cases v <;> simp only [flV,aa,ag,ay] at hr
  obtain ⟨rfl,hr⟩:=hr;simp only [VR] at hv;obtain ⟨vs,rfl,hv⟩:=hv;obtain ⟨k1,k2,k3⟩:=jt h cs hv hr;refine ⟨k1,k2,fun G' hren hz hf r n hr=>?_⟩
  obtain ⟨m1,m2⟩:=k3 G' hren hz hf r n hr;exact ⟨by simp only [unV,VR]; exact ⟨vs,rfl,m1⟩,by simp only [unV]; exact m2⟩
 | .agg cs,v,u,s,s',ls,hv,hr=>by
  cases v <;> simp only [flV,aa] at hr
  simp only [VR] at hv;obtain ⟨vs,rfl,hv,h1⟩:=hv;obtain ⟨k1,k2,k3⟩:=jt h cs hv hr;refine ⟨k1,k2,fun G' hren hz hf r n hr=>?_⟩
  obtain ⟨m1,m2⟩:=k3 G' hren hz hf r n hr;exact ⟨by simp only [unV,VR]; exact ⟨vs,rfl,m1,h1⟩,by simp only [unV]; exact m2⟩
theorem jt (h:Rel E G st a w):∀ (shs:List Sh) {vs:List Val} {us:List Value} {s s':FS} {ls:List D},VRL E.H G w vs us->ah call st (pa E.H shs vs s)=some (ls,s') →
 fw E G st w s s' ls (fun G' r n=>VRL E.H G' w (ar (fun c=>c) r shs n).1 us/\(ar (fun c=>c) r shs n).2=n+ls.length)
 | [],vs,us,s,s',ls,hv,hr=>by
  cases vs <;> simp only [pa,aa,ab,C8.injEq] at hr
  obtain ⟨rfl,rfl⟩:=hr;exact fw.refl_ fun G' hf r n hr=>⟨by simp only [ar,VRL] at hv ⊢; exact hv,by simp [ar]⟩
 | sh::shs,vs,us,s,s',ls,hv,hr=>by
  cases vs <;> simp only [pa,aa] at hr
  rename_i v vs;simp only [run_bind,ab,C8.injEq] at hr;obtain ⟨⟨l1,s1⟩,h1,⟨l2,s2⟩,h2,rfl,rfl⟩:=hr;simp only [VRL] at hv;obtain ⟨u,us,rfl,hv1,hv2⟩:=hv;obtain ⟨⟨t1,k1⟩,k2,k3⟩:=Ml h sh hv1 h1;obtain ⟨⟨t2,m1⟩,m2,m3⟩:=jt h shs hv2 h2;simp only at k1 k2 k3 m1 m2 m3;refine ⟨⟨t1++t2,by rw [m1,k1,C9]⟩,fun j hj=>m2 j (k2 j hj),fun G' hren hz hf r n hr=>?_⟩
  obtain ⟨p1,p2⟩:=k3 G' (by rw [m1] at hren; exact hren.left) (fun j hj=>hz j (m2 j hj)) hf r n hr.left
  obtain ⟨q1,q2⟩:=m3 G' hren hz hf r (n+l1.length) hr.right;simp only [ar,p2,VRL];exact ⟨⟨u,us,rfl,p1,q1⟩,by rw [q2,E6]; omega⟩
end
end
end Go.Q
end
section
namespace Go.Q
open Go
open Go.RowKit (Below)
section
variable {call:Key->List D->R} {E:Env} {G G0:Gh} {st st0:St} {a:Act} {w:World}
theorem al {α:Type} {l:List (Nat×α)} {c:Nat} {x:α} (hl:ai l c=some x):(c,x)∈l:=by
 induction l with
 | nil=>simp [ai] at hl
 | cons p l ih =>
  obtain ⟨k,y⟩:=p;simp only [ai] at hl;cases hb:C2 k c with
  | true=>rw [hb] at hl; simp only [H1,B7.injEq] at hl; subst hl; rw [ay.1 hb]; exact B5 ..
  | false=>rw [hb] at hl; exact B6 _ (ih hl)
def Da (E:Env) (G G':Gh) (st:St) (w:World) (sg:List (Nat×Tgt)) (objs:List (Nat×OSh)) (c:Nat):Obj->Prop
 | .box cs'=>∃ j cs vs t,(c,Tgt.obj j)∈sg/\st.o j=some (.box cs)/\w.heap[G.bm j]?=some (.cells (List.toArray vs) t (0,0))/\VRL E.H G' w cs' vs/\∀ u∈vs,u.oneCell'=true
 | .arr e lv ver rows ov=>ver=0/\ov=none/\(c,OSh.arr e lv)∈objs/\((∃ j lv' ver',(c,Tgt.obj j)∈sg/\st.o j=some (.arr e lv' ver' rows none)/\lv.le lv'=true/\fk c=fk j)\/((c,Tgt.new)∈sg/\rows=[]/\∃ ti,E.H.ty e=some ti/\0<ti.lay.length))
theorem Da.more {G':Gh} {sg t:List (Nat×Tgt)} {objs objs':List (Nat×OSh)} {c:Nat} {ob:Obj} (h:Da E G G' st w sg objs c ob) (ho:∀ p∈objs,p∈objs'):Da E G G' st w (sg++t) objs' c ob:=by
 cases ob with
 | box cs' =>
  obtain ⟨j,cs,vs,ty,h1,h2⟩:=h;exact ⟨j,cs,vs,ty,by simp [h1],h2⟩
 | arr e lv ver rows ov =>
  obtain ⟨h1,h2,h3,h4⟩:=h;refine ⟨h1,h2,ho _ h3,h4.imp (fun ⟨j,lv',ver',q1,q2⟩=>⟨j,lv',ver',by simp [q1],q2⟩) fun ⟨q1,q2⟩=>⟨by simp [q1],q2⟩⟩
def yo (r:List D):OSh->Nat->Obj×Nat
 | .box shs,n=>(.box (ar (fun c=>c) r shs n).1,(ar (fun c=>c) r shs n).2)
 | .arr e lv,n=>(.arr e lv 0 (nth r n).L none,n.succ)
theorem yp (h:Rel E G st a w):∀ (objs:List (Nat×OSh)) {s s':FS} {ls:List D},ah call st (flO E.H objs s)=some (ls,s') →
 fw E G st w s s' ls (fun G' r n=>∀ c ob,(c,ob)∈unO (fun c=>c) (fun _=>0) r objs n->Da E G G' st w s'.sg objs c ob)
 | [],s,s',ls,hr=>by
  simp only [flO,ab,C8.injEq] at hr;obtain ⟨rfl,rfl⟩:=hr;exact fw.refl_ fun G' hf r n hr c ob hm=>by simp [unO] at hm
 | (c,osh)::objs,s,s',ls,hr=>by
  simp only [flO,run_bind,ab,C8.injEq] at hr;obtain ⟨⟨l1,s1⟩,h1,⟨l2,s2⟩,h2,rfl,rfl⟩:=hr;obtain ⟨⟨t2,m1⟩,m2,m3⟩:=yp h objs h2;simp only at h1 m1 m2 m3
  -- the first object
  have first:fw E G st w s s1 l1 (fun G' r n=>Da E G G' st w s1.sg ((c,osh)::objs) c (yo r osh n).1/\(yo r osh n).2=n+l1.length):=by
   cases hl:ai s.sg c with
   | none=>simp only [hl,aa] at h1
   | some tg =>
    have hm:=al hl;simp only [hl] at h1;cases tg with
    | obj j =>
     simp only [ax] at h1;split at h1
     · rename_i shs cs hj
       have ho:=(h.objs j _ hj).2;simp only [OR] at ho;obtain ⟨_,_,vs,t,h3,h4,h5⟩:=ho;obtain ⟨⟨t1,k1⟩,k2,k3⟩:=jt h shs h4 h1;refine ⟨⟨t1,k1⟩,k2,fun G' hren hz hf r n hr=>?_⟩
       obtain ⟨q1,q2⟩:=k3 G' hren hz hf r n hr;simp only [yo];exact ⟨⟨j,cs,vs,t,by rw [k1]; simp [hm],hj,h3,q1,h5⟩,q2⟩
     · rename_i e lv e' lv' ver rows hj
       simp only [ag,ab,C8.injEq,B4,ay] at h1;obtain ⟨⟨hfx,rfl,hlv⟩,rfl,rfl⟩:=h1;refine fw.refl_ fun G' hf r n hr=>?_
       simp only [yo];rw [hr.one];exact ⟨⟨rfl,rfl,B5 ..,.inl ⟨j,lv',ver,hm,hj,hlv,by simpa using hfx⟩⟩,by simp⟩
     · simp only [aa] at h1
    | new =>
     cases osh with
     | box shs=>simp only [aa] at h1
     | arr e lv =>
      simp only [ag,ab,C8.injEq] at h1;obtain ⟨he,rfl,rfl⟩:=h1;cases hte:E.H.ty e with
      | none=>rw [hte] at he; simp at he
      | some ti =>
       rw [hte] at he;simp only [bh,E7,dn] at he;refine fw.refl_ fun G' hf r n hr=>?_
       simp only [yo];rw [hr.one];exact ⟨⟨rfl,rfl,B5 ..,.inr ⟨hm,rfl,ti,hte,by omega⟩⟩,by simp⟩
  obtain ⟨⟨t1,k1⟩,k2,k3⟩:=first;refine ⟨⟨t1++t2,by rw [m1,k1,C9]⟩,fun j hj=>m2 j (k2 j hj),fun G' hren hz hf r n hr c' ob hm=>?_⟩
  obtain ⟨p1,p2⟩:=k3 G' (by rw [m1] at hren; exact hren.left) (fun j hj=>hz j (m2 j hj)) hf r n hr.left
  have q:=m3 G' hren hz hf r (n+l1.length) hr.right;have e:unO (fun c=>c) (fun _=>0) r ((c,osh)::objs) n=(c,(yo r osh n).1)::unO (fun c=>c) (fun _=>0) r objs (yo r osh n).2:=by cases osh <;> rfl
  rw [e,p2,C1] at hm;rcases hm with hm | hm
  · simp only [C8.injEq] at hm
    obtain ⟨rfl,rfl⟩:=hm;rw [m1]; exact p1.more fun _ h=>h
  · have:=(q c' ob hm).more (t:=[]) (objs':=(c,osh)::objs) fun p hp=>B6 _ hp
    simpa using this
theorem Rel.freeze1 (h:Rel E G st a w) {j:Nat} {e:TypeId} {lv:Lv} {ver:Nat} {rows:ak} (hj:st.o j=some (.arr e lv ver rows none)) :
 ∃ G',ci G st G' (st.upd [(j,some (.arr e .ap ver rows none))])/\Rel E G' (st.upd [(j,some (.arr e .ap ver rows none))]) a w/\(∀ b q,G'.F b q->G.F b q\/G.blk j b)/\(∃ B,RC E.H w G'.F (.sl rows) (.sl e) (G.hv j) B) ∧
  (lv=.deep->∀ i c e',i<rows.length->(G.ly j)[c]?=some (.sl e')->∃ B,RC E.H w G'.F (.sl (nth (rowAt rows i) c).L) (.sl e') (G.nh j ver i c) B):=by
 obtain ⟨G',s1,r1,hnew,B,hrc⟩:=h.freezeX hj;refine ⟨G',s1,r1,hnew,⟨B,hrc⟩,fun hlv i c e' hi hc=>?_⟩
 subst hlv;have ho:=(h.objs j _ hj).2;obtain ⟨ti,o,cur,t,vs,cap,q1,q2,q3,q4,q5,q6,q7,q8,q9,q10,q11,q12⟩:=bu ho (by omega)
 simp only [bc] at q11;obtain ⟨_,_,_,m6⟩:=q11;rw [q4] at hrc;simp only [RC] at hrc;obtain ⟨e1,te,A',cap',k1,k2,k3,k4,k5⟩:=hrc;simp only [CT.sl.injEq] at k1;subst k1;rw [q1] at k2;obtain rfl:ti=te:=by simpa using k2
 simp only [Value.slice.injEq] at k3;obtain ⟨rfl,_,rfl⟩:=k3;rcases k5 with ⟨rfl,_⟩|⟨b,o',vs',B',hA,_,hl,hrr⟩
 · simp at hi
 simp only [B7.injEq,Addr.mk.injEq,and_true] at hA;obtain ⟨rfl,rfl⟩:=hA;obtain ⟨va,v,vb,Ba,Bm,Bb,e1,e2,p3,p4,_,_⟩:=hrr.cut i hi;rw [q3] at hc;obtain ⟨u,B2,hu,hrc2,_,_⟩:=p4.at_ hc;have hul:=(B9.1 hu).1;have hvs':vs'[i*ti.lay.length+c]?=some u:=by
  rw [e1,C9,D3 (by omega),p3,show i*ti.lay.length+c-i*ti.lay.length=c by omega,D2 hul]
  exact hu
 have c1:=(hl _ _ hvs').1;have c2:=q12 _ _ (m6 i c e' hi hc);rw [c1] at c2;obtain rfl:u=G.nh j ver i c:=by simpa using c2
 have hsl:nth (rowAt rows i) c=.sl (nth (rowAt rows i) c).L:=by
  cases hd:nth (rowAt rows i) c with
  | sl r=>rfl
  | int n=>rw [hd] at hrc2; simp [RC] at hrc2
  | bool n=>rw [hd] at hrc2; simp [RC] at hrc2
  | str n=>rw [hd] at hrc2; simp [RC] at hrc2
 rw [hsl] at hrc2;exact ⟨B2,hrc2⟩
end
end Go.Q
end
section
namespace Go.Q
open Go
open Go.RowKit (Below)
section
variable {call:Key->List D->R} {E:Env} {G G0:Gh} {st st0:St} {a:Act} {w:World}
theorem rq.mono {H:Tab} {F F':Fz} {fz:List Nat} (h:rq H G st F w fz) (hf:∀ b o,F b o->F' b o) (hn:F'≠br:=by exact Gh.nA _):rq H G st F' w fz:=fun j hj e lv ver rows ho=>by
 obtain ⟨⟨B,k1⟩,k2⟩:=h j hj e lv ver rows ho;refine ⟨⟨B,RC.mono _ _ _ _ (fun b _ q hq=>⟨hf b q hq,rfl⟩) k1 (fun e=>absurd e hn)⟩,fun hd i c e' hi hc=>?_⟩
 obtain ⟨B',k3⟩:=k2 hd i c e' hi hc;exact ⟨B',RC.mono _ _ _ _ (fun b _ q hq=>⟨hf b q hq,rfl⟩) k3 (fun e=>absurd e hn)⟩
def Db (st st1:St):Prop:=st1.t=st.t/\st1.u=st.u/\st1.n=st.n
theorem Rel.freezeN (h:Rel E G st a w):∀ (fz:List Nat),∃ G1 st1,ci G st G1 st1/\Rel E G1 st1 a w/\rq E.H G st G1.F w fz/\(∀ j,j∉fz->st1.o j=st.o j)/\Db st st1/\(∀ j cs,st.o j=some (.box cs)->st1.o j=some (.box cs))/\(∀ b o,G1.F b o->G.F b o\/∃ j∈fz,(∃ ob,st.o j=some ob)/\G.blk j b)/\(∀ j∈fz,∀ e lv ver rows,st.o j=some (.arr e lv ver rows none)->st1.o j=some (.arr e .ap ver rows none))
 | []=>⟨G,st,ci.refl G st,h,fun j hj=>by simp at hj,fun _ _=>rfl,⟨rfl,rfl,rfl⟩,fun _ _ h=>h,fun _ _=>.inl,fun j hj=>by simp at hj⟩
 | j::fz=>by
  obtain ⟨G1,st1,s1,r1,k1,k2,k3,kb,k4,k6⟩:=h.freezeN fz;have k4':∀ b o,G1.F b o->G.F b o\/∃ i∈j::fz,(∃ ob,st.o i=some ob)/\G.blk i b:=fun b o hf=>(k4 b o hf).imp (fun h=>h) fun ⟨i,hi,q⟩=>⟨i,B6 _ hi,q⟩
  by_cases hm:j∈fz
  · exact ⟨G1,st1,s1,r1,fun i hi=>k1 i ((C1.1 hi).elim (fun e=>e▸hm) id),fun i hi=>k2 i fun hh=>hi (B6 _ hh),k3,kb,k4',fun i hi=>k6 i ((C1.1 hi).elim (fun e=>e▸hm) id)⟩
  · have hsame:=k2 j hm
    by_cases hex:∃ e lv ver rows,st.o j=some (.arr e lv ver rows none)
    · obtain ⟨e,lv,ver,rows,hj⟩:=hex
      obtain ⟨G2,s2,r2,q0,q1,q2⟩:=r1.freeze1 (hsame.trans hj);obtain ⟨hU,ho⟩:=h.objs j _ hj;have hvm:ver<=G.vm j:=by simp only [OR] at ho; obtain ⟨_,_,_,_,_,_,hvm,_⟩:=ho; omega
      refine ⟨G2,_,s1.trans s2,r2,fun i hi e' lv' ver' rows' hi'=>?_,fun i hi=>?_,?_,fun i cs hi=>?_,fun b o hf=>?_,fun i hi e' lv' ver' rows' hi'=>?_⟩
      · rcases C1.1 hi with rfl | hi
        · rw [hj] at hi'
          simp only [B7.injEq,Obj.arr.injEq,and_true] at hi';obtain ⟨rfl,rfl,rfl,rfl⟩:=hi';rw [<- s1.le.hv i hU,<- s1.le.ly i hU,<- s1.le.nh i ver hU hvm];exact ⟨q1,q2⟩
        · exact (k1.mono s2.F) i hi e' lv' ver' rows' hi'
      · rw [ce _ _ (fun p hp=>by simp only [E1] at hp; subst hp; exact fun e=>hi (e▸B5 ..))]
        exact k2 i fun hh=>hi (B6 _ hh)
      · obtain ⟨x,y,z⟩:=co st1 [(j,some (.arr e .ap ver rows none))] st1
        exact ⟨x.trans k3.1,y.trans k3.2.1,z.trans k3.2.2⟩
      · have hne:j≠i:=fun e=>by subst e; rw [hj] at hi; simp at hi
        rw [ce _ _ (fun p hp=>by simp only [E1] at hp; subst hp; exact hne)]
        exact kb i cs hi
      · rcases q0 b o hf with hf | hb
        · exact k4' b o hf
        · exact .inr ⟨j,B5 ..,⟨_,hj⟩,s1.blk j b hb⟩
      · by_cases hij:i=j
        · subst hij
          rw [hj] at hi';simp only [B7.injEq,Obj.arr.injEq,and_true] at hi';obtain ⟨rfl,rfl,rfl,rfl⟩:=hi';simp only [St.upd,ae]
        · rw [ce _ _ (fun p hp=>by simp only [E1] at hp; subst hp; exact fun e=>hij e.symm)]
          exact k6 i ((C1.1 hi).resolve_left hij) e' lv' ver' rows' hi'
    · refine ⟨G1,st1,s1,r1,fun i hi e' lv' ver' rows' hi'=>?_,fun i hi=>k2 i fun hh=>hi (B6 _ hh),k3,kb,k4',fun i hi e' lv' ver' rows' hi'=>?_⟩
      · rcases C1.1 hi with rfl | hi
        · exact absurd ⟨_,_,_,_,hi'⟩ hex
        · exact k1 i hi e' lv' ver' rows' hi'
      · rcases C1.1 hi with rfl | hi
        · exact absurd ⟨_,_,_,_,hi'⟩ hex
        · exact k6 i hi e' lv' ver' rows' hi'
theorem Rel.lower1 (h:Rel E G st a w) {j:Nat} {e:TypeId} {lv lv':Lv} {ver:Nat} {rows:ak} (hj:st.o j=some (.arr e lv' ver rows none)) (hl:lv.le lv'=true) :
 ∃ G',G.le G'/\(∀ b o,G.F b o->G'.F b o)/\Rel E G' (st.upd [(j,some (.arr e lv ver rows none))]) a w/\(∀ b q,G'.F b q->G.F b q\/G.blk j b)/\∀ i b,G'.blk i b->G.blk i b:=by
 cases lv with
 | ap =>
  obtain ⟨G',s1,r1,q0,_⟩:=h.freezeX hj;exact ⟨G',s1.le,s1.F,r1,q0,s1.blk⟩
 | top =>
  cases lv' with
  | ap=>simp [Lv.le] at hl
  | top=>exact ⟨G,Gh.le.refl G,fun _ _=>id,by rw [jd hj]; exact h,fun _ _=>.inl,fun _ _=>id⟩
  | deep =>
   obtain ⟨G',e1,e2,e3,e4,e5⟩:=h.demote hj;exact ⟨G',e1,e2,e3,e4,fun i b hb=>by rw [e5] at hb; exact hb⟩
 | deep =>
  cases lv' with
  | ap=>simp [Lv.le] at hl
  | top=>simp [Lv.le] at hl
  | deep=>exact ⟨G,Gh.le.refl G,fun _ _=>id,by rw [jd hj]; exact h,fun _ _=>.inl,fun _ _=>id⟩
theorem Rel.lowerN (h:Rel E G st a w):∀ (L:List (Nat×Lv)),(L.map (·.1)).Nodup->∃ G1 st1,G.le G1/\(∀ b o,G.F b o->G1.F b o)/\Rel E G1 st1 a w/\(∀ j,j∉L.map (·.1)->st1.o j=st.o j) ∧
 (∀ j lv,(j,lv)∈L->∀ e lv' ver rows,st.o j=some (.arr e lv' ver rows none)->lv.le lv'=true->st1.o j=some (.arr e lv ver rows none))/\Db st st1/\(∀ j cs,st.o j=some (.box cs)->st1.o j=some (.box cs))/\(∀ b o,G1.F b o->G.F b o\/∃ j∈L.map (·.1),(∃ ob,st.o j=some ob)/\G.blk j b)/\(∀ i b,G1.blk i b->G.blk i b)/\(∀ j e lv ver rows ov,st.o j=some (.arr e lv ver rows ov)->∃ lv',st1.o j=some (.arr e lv' ver rows ov))
 | [],_=>⟨G,st,Gh.le.refl G,fun _ _=>id,h,fun _ _=>rfl,fun j lv hj=>by simp at hj,⟨rfl,rfl,rfl⟩,fun _ _ h=>h,fun _ _=>.inl,fun _ _=>id,fun j e lv ver rows ov h=>⟨lv,h⟩⟩
 | (j,lv)::L,hn=>by
  simp only [C0,C4] at hn;obtain ⟨G1,st1,l1,f1,r1,k1,k2,k3,kb,k4,k5,k6⟩:=h.lowerN L hn.2;have k4':∀ b o,G1.F b o->G.F b o\/∃ i∈((j,lv)::L).map (·.1),(∃ ob,st.o i=some ob)/\G.blk i b:=fun b o hf=>(k4 b o hf).imp (fun h=>h) fun ⟨i,hi,q⟩=>⟨i,B6 _ hi,q⟩
  have hsame:=k1 j hn.1;by_cases hex:∃ e lv' ver rows,st.o j=some (.arr e lv' ver rows none)/\lv.le lv'=true
  · obtain ⟨e,lv',ver,rows,hj,hl⟩:=hex
    obtain ⟨G2,l2,f2,r2,q0,q5⟩:=r1.lower1 (hsame.trans hj) hl;refine ⟨G2,_,l1.trans l2,fun b o hf=>f2 b o (f1 b o hf),r2,fun i hi=>?_,fun i lv2 hi e2 lv2' ver2 rows2 hi2 hl2=>?_,?_,fun i cs hi=>?_,fun b o hf=>?_,fun i b hb=>k5 i b (q5 i b hb),fun i e' lv2 ver' rows' ov' hi=>?_⟩
    · simp only [C0,C1,not_or] at hi
      rw [ce _ _ (fun p hp=>by simp only [E1] at hp; subst hp; exact fun e=>hi.1 e.symm)]
      exact k1 i hi.2
    · rcases C1.1 hi with hi | hi
      · simp only [C8.injEq] at hi
        obtain ⟨rfl,rfl⟩:=hi;rw [hj] at hi2;simp only [B7.injEq,Obj.arr.injEq,and_true] at hi2;obtain ⟨rfl,rfl,rfl,rfl⟩:=hi2;simp only [St.upd,ae]
      · have hne:i≠j:=fun e=>hn.1 (e▸List.mem_map_of_mem (f:=(·.1)) hi)
        rw [ce _ _ (fun p hp=>by simp only [E1] at hp; subst hp; exact fun e=>hne e.symm)]
        exact k2 i lv2 hi e2 lv2' ver2 rows2 hi2 hl2
    · obtain ⟨x,y,z⟩:=co st1 [(j,some (.arr e lv ver rows none))] st1
      exact ⟨x.trans k3.1,y.trans k3.2.1,z.trans k3.2.2⟩
    · have hne:j≠i:=fun e=>by subst e; rw [hj] at hi; simp at hi
      rw [ce _ _ (fun p hp=>by simp only [E1] at hp; subst hp; exact hne)]
      exact kb i cs hi
    · rcases q0 b o hf with hf | hb
      · exact k4' b o hf
      · exact .inr ⟨j,B5 ..,⟨_,hj⟩,k5 j b hb⟩
    · by_cases hij:i=j
      · subst hij
        rw [hj] at hi;simp only [B7.injEq,Obj.arr.injEq] at hi;obtain ⟨rfl,rfl,rfl,rfl,rfl⟩:=hi;exact ⟨lv,by simp only [St.upd,ae]⟩
      · rw [ce _ _ (fun p hp=>by simp only [E1] at hp; subst hp; exact fun e=>hij e.symm)]
        exact k6 i e' lv2 ver' rows' ov' hi
  · refine ⟨G1,st1,l1,f1,r1,fun i hi=>k1 i fun hh=>hi (B6 _ hh),fun i lv2 hi e2 lv2' ver2 rows2 hi2 hl2=>?_,k3,kb,k4',k5,k6⟩
    rcases C1.1 hi with hi | hi
    · simp only [C8.injEq] at hi
      obtain ⟨rfl,rfl⟩:=hi;exact absurd ⟨_,_,_,_,hi2,hl2⟩ hex
    · exact k2 i lv2 hi e2 lv2' ver2 rows2 hi2 hl2
end
end Go.Q
end
section
namespace Go.Q
open Go
open Go.RowKit (Below)
noncomputable def ghR (H:Tab) (G:Gh) (sg:List (Nat×Tgt)) (objs:List (Nat×OSh)):Gh where
 F:=G.F
 nA:=G.nA
 U c:=(∃ t,ai sg c=some t)\/(c<16/\G.U c)
 bm c:=match ai sg c with | some (.obj j)=>G.bm j | some .new=>0 | none=>G.bm c
 hv c:=match ai sg c with | some (.obj j)=>G.hv j | some .new=>.slice none 0 0 | none=>G.hv c
 ly c:=match ai sg c with
  | some (.obj j)=>G.ly j
  | some .new=>(match ai objs c with | some (.arr e _)=>((H.ty e).map (·.lay)).getD [] | _=>[])
  | none=>G.ly c
 blk c:=match ai sg c with | some (.obj j)=>G.blk j | _=>fun _=>False
 nh c:=fun _=>match ai sg c with | some (.obj j)=>G.nh j (G.vm j) | _=>fun _ _=>undef
 pv _:=fun _=>undef
 vm _:=0
theorem ef {α:Type}:∀ {l:List (Nat×α)} {c:Nat} {x:α},(l.map (·.1)).Nodup->(c,x)∈l->ai l c=some x
 | [],c,x,_,hm=>by simp at hm
 | (k,y)::l,c,x,hn,hm=>by
  simp only [C0,C4] at hn;simp only [ai];rcases C1.1 hm with hm | hm
  · simp only [C8.injEq] at hm
    obtain ⟨rfl,rfl⟩:=hm;simp [ay.2 rfl]
  · have hne:k≠c:=fun e=>hn.1 (e▸List.mem_map_of_mem (f:=(·.1)) hm)
    rw [bf.2 hne];exact ef hn.2 hm
theorem dr:∀ (l:List (Nat×Val)) (st:St),(ja l st).o=st.o/\(ja l st).u=st.u/\(ja l st).n=st.n/\∀ t,(ja l st).t t=st.t t\/∃ v,(t,v)∈l/\(ja l st).t t=v
 | [],st=>⟨rfl,rfl,rfl,fun _=>.inl rfl⟩
 | (k,v)::l,st=>by
  obtain ⟨h1,h2,h3,h4⟩:=dr l (st.put (some k) v);refine ⟨h1,h2,h3,fun t=>?_⟩
  rcases h4 t with h | ⟨v',hm,h⟩
  · by_cases e:t=k
    · subst e
      refine .inr ⟨v,B5 ..,h.trans ?_⟩;simp only [St.put,ae]
    · exact .inl (h.trans (by simp only [St.put,aj _ _ e]))
  · exact .inr ⟨v',B6 _ hm,h⟩
theorem dt:∀ (l:List (Nat×Obj)) (st:St),(mq l st).t=st.t/\(mq l st).u=st.u/\(mq l st).n=st.n/\∀ j ob,(mq l st).o j=some ob->st.o j=some ob\/(j,ob)∈l
 | [],st=>⟨rfl,rfl,rfl,fun _ _=>.inl⟩
 | (k,v)::l,st=>by
  obtain ⟨h1,h2,h3,h4⟩:=dt l { st with o:=cd st.o k (some v) }
  refine ⟨h1,h2,h3,fun j ob hj=>?_⟩
  rcases h4 j ob hj with h | h
  · by_cases e:j=k
    · subst e
      simp only [ae,B7.injEq] at h;exact .inr (h▸B5 ..)
    · simp only [aj _ _ e] at h
      exact .inl h
  · exact .inr (B6 _ h)
section
variable {call:Key->List D->R} {E:Env} {G G0:Gh} {st st0:St} {a:Act} {w:World}
theorem VRL.zip_ {H:Tab}:∀ {ts:List Nat} {vs:List Val} {us:List Value},VRL H G w vs us->∀ {t:Nat} {v:Val},(t,v)∈ts.zip vs->∃ (i:Nat) (u:Value),ts[i]?=some t/\us[i]?=some u/\VR H G w v u
 | [],vs,us,h,t,v,hm=>by simp at hm
 | t0::ts,[],us,h,t,v,hm=>by simp at hm
 | t0::ts,v0::vs,us,h,t,v,hm=>by
  simp only [VRL] at h;obtain ⟨u,us,rfl,h1,h2⟩:=h;simp only [List.zip_cons_cons,C1,C8.injEq] at hm;rcases hm with ⟨rfl,rfl⟩ | hm
  · exact ⟨0,u,rfl,rfl,h1⟩
  · obtain ⟨i,u',k1,k2,k3⟩:=VRL.zip_ h2 hm
    exact ⟨i+1,u',by simpa using k1,by simpa using k2,k3⟩
theorem Rel.unSt_ {E':Env} {G':Gh} {nt:Nat} {vals:List (Nat×Sh)} {objs:List (Nat×OSh)} {ls:List D} {us:List Value} (hc:gz E' G' w) (hnt:a.tmps.size=E'.nt) (hdf:a.defers=[])
 (hv:VRL E'.H G' w (ar (fun c=>c) ls (vals.map (·.2)) 0).1 us) (hu:∀ (i:Nat) (t:Nat),(vals.map (·.1))[i]?=some t->us[i]?=some (a.tmps.getD t undef)\/us[i]?=none)
 (ho:∀ c ob,(c,ob)∈unO (fun c=>c) (fun _=>0) ls objs (ar (fun c=>c) ls (vals.map (·.2)) 0).2->G'.U c/\OR E'.H G' w c ob/\∀ b,G'.blk c b->b<w.heap.size/\(E'.w0.heap.size<=b\/E'.lent b))
 (hpl:∀ c ob b,(c,ob)∈unO (fun c=>c) (fun _=>0) ls objs (ar (fun c=>c) ls (vals.map (·.2)) 0).2->G'.blk c b->Pl w b)
 (hs:∀ c c' ob ob' b,(c,ob)∈unO (fun c=>c) (fun _=>0) ls objs (ar (fun c=>c) ls (vals.map (·.2)) 0).2->(c',ob')∈unO (fun c=>c) (fun _=>0) ls objs (ar (fun c=>c) ls (vals.map (·.2)) 0).2->G'.blk c b->G'.blk c' b->c=c') (h64:∀ c,G'.U c->c<64):Rel E' G' (eo nt vals objs ls) a w:=by
 have hso:∀ c ob,(eo nt vals objs ls).o c=some ob->(c,ob)∈unO (fun c=>c) (fun _=>0) ls objs (ar (fun c=>c) ls (vals.map (·.2)) 0).2:=fun c ob h=>by
  unfold eo at h;obtain ⟨_,_,_,k⟩:=dt (unO (fun c=>c) (fun _=>0) ls objs (ar (fun c=>c) ls (vals.map (·.2)) 0).2) (ja ((vals.map (·.1)).zip (ar (fun c=>c) ls (vals.map (·.2)) 0).1) (mo nt))
  rcases k c ob h with k | k
  · rw [(dr _ _).1] at k; simp [mo] at k
  · exact k
 exact {
  core:=hc
  nt:=hnt
  dfs:=hdf
  tmps:=fun t=>by
   unfold eo;simp only [(dt _ _).1];rcases (dr ((vals.map (·.1)).zip (ar (fun c=>c) ls (vals.map (·.2)) 0).1) (mo nt)).2.2.2 t with h | ⟨v,hm,h⟩
   · rw [h]; simp only [mo,VR]
   · rw [h]
     obtain ⟨i,u,k1,k2,k3⟩:=hv.zip_ hm;rcases hu i t k1 with k | k
     · rw [k2] at k; simp only [B7.injEq] at k; rw [<- k]; exact k3
     · rw [k2] at k; simp at k
  objs:=fun c ob h=>⟨(ho c ob (hso c ob h)).1,(ho c ob (hso c ob h)).2.1⟩
  blk:=fun c ob b h hb=>(ho c ob (hso c ob h)).2.2 b hb
  pl:=fun c ob b h hb=>hpl c ob b (hso c ob h) hb
  sep:=fun c c' ob ob' b h h' hb hb'=>hs c c' ob ob' b (hso c ob h) (hso c' ob' h') hb hb'
  used:=fun c hc=>by
   unfold eo;rw [(dt _ _).2.1,(dr _ _).2.1];simp only [mo,E7,dn];exact h64 c hc }
end
end Go.Q
end
section
namespace Go.Q
open Go
open Go.RowKit (Below)
theorem mz:∀ {sg:List (Nat×Tgt)} {c c' j:Nat},(sg.flatMap fun p=>cu p.2).Nodup->(c,Tgt.obj j)∈sg->(c',Tgt.obj j)∈sg->c=c'
 | [],c,c',j,_,h,_=>by simp at h
 | (k,t)::sg,c,c',j,hn,h,h'=>by
  simp only [List.flatMap_cons,C7] at hn;obtain ⟨_,h2,h3⟩:=hn;have mem:∀ {x:Nat},(x,Tgt.obj j)∈sg->j∈sg.flatMap fun p=>cu p.2:=fun {x} hx=>E4.2 ⟨_,hx,by simp [cu]⟩
  rcases C1.1 h with p | p <;> rcases C1.1 h' with q | q
  · simp only [C8.injEq] at p q; rw [p.1,q.1]
  · simp only [C8.injEq] at p
    obtain ⟨rfl,rfl⟩:=p;exact absurd rfl (h3 j (by simp [cu]) j (mem q))
  · simp only [C8.injEq] at q
    obtain ⟨rfl,rfl⟩:=q;exact absurd rfl (h3 j (by simp [cu]) j (mem p))
  · exact mz h2 p q
def na (sg:List (Nat×Tgt)):List (Nat×OSh)->List (Nat×Lv)
 | []=>[]
 | (c,osh)::r=>match osh,ai sg c with
  | .arr _ lv,some (.obj j)=>(j,lv)::na sg r
  | _,_=>na sg r
theorem jh {sg:List (Nat×Tgt)}:∀ {objs:List (Nat×OSh)} {j:Nat} {lv:Lv},(j,lv)∈na sg objs->∃ c e,(c,OSh.arr e lv)∈objs/\ai sg c=some (.obj j)
 | [],j,lv,h=>by simp [na] at h
 | (c,osh)::r,j,lv,h=>by
  simp only [na] at h;split at h
  · rename_i e lv' j' hl
    rcases C1.1 h with h | h
    · simp only [C8.injEq] at h
      obtain ⟨rfl,rfl⟩:=h;exact ⟨c,e,B5 ..,hl⟩
    · obtain ⟨c',e',k1,k2⟩:=jh h
      exact ⟨c',e',B6 _ k1,k2⟩
  · obtain ⟨c',e',k1,k2⟩:=jh h
    exact ⟨c',e',B6 _ k1,k2⟩
theorem zo {sg:List (Nat×Tgt)}:∀ {objs:List (Nat×OSh)} {c j:Nat} {e:TypeId} {lv:Lv},(c,OSh.arr e lv)∈objs->ai sg c=some (.obj j)->(j,lv)∈na sg objs
 | [],c,j,e,lv,h,_=>by simp at h
 | (c',osh)::r,c,j,e,lv,h,hl=>by
  rcases C1.1 h with h | h
  · simp only [C8.injEq] at h
    obtain ⟨rfl,rfl⟩:=h;simp only [na,hl];exact B5 ..
  · have:=zo h hl
    simp only [na];split
    · exact B6 _ this
    · exact this
theorem qf {sg:List (Nat×Tgt)} (hn:(sg.flatMap fun p=>cu p.2).Nodup):∀ {objs:List (Nat×OSh)},(objs.map (·.1)).Nodup->((na sg objs).map (·.1)).Nodup
 | [],_=>by simp [na]
 | (c,osh)::r,h=>by
  simp only [C0,C4] at h;have ih:=qf hn h.2;simp only [na];split
  · rename_i e lv j hl
    simp only [C0,C4];refine ⟨fun hm=>?_,ih⟩
    obtain ⟨p,hp,hpe⟩:=D0.1 hm;obtain ⟨j',lv'⟩:=p;simp only at hpe;subst hpe;obtain ⟨c',e',k1,k2⟩:=jh hp;have:=mz hn (al hl) (al k2);subst this;exact h.1 (List.mem_map_of_mem (f:=(·.1)) k1)
  · exact ih
end Go.Q
end
section
namespace Go.Q
open Go
open Go.RowKit (Below)
section
variable {call:Key->List D->R} {E:Env} {G G0:Gh} {st st0:St} {a:Act} {w:World}
theorem FS.ok_spec {s:FS} {objs:List (Nat×OSh)} (h:s.ok objs=true):(s.sg.flatMap fun p=>cu p.2).Nodup/\(∀ j∈s.fz,j∉s.sg.flatMap fun p=>cu p.2)/\(s.sg.map (·.1)).Nodup/\(∀ p∈s.sg,p.1<64)/\(objs.map (·.1)).Nodup:=by
 simp only [FS.ok,B4,fo,C6,C5,<- Bool.not_eq_true,cx,E7,dn] at h;obtain ⟨h1,h2,h3,h4,h5⟩:=h;exact ⟨h1,h2,h3,fun p hp=>h4 p hp,h5⟩
structure Frz (st st2:St) (s:FS):Prop where
 alike:Db st st2
 out:∀ j,j∉s.fz->(∀ c,(c,Tgt.obj j)∉s.sg)->st2.o j=st.o j
 fz:∀ j∈s.fz,∀ e lv ver rows,st.o j=some (.arr e lv ver rows none)->st2.o j=some (.arr e .ap ver rows none)
 box:∀ j cs,st.o j=some (.box cs)->st2.o j=some (.box cs)
 arr:∀ c j,(c,Tgt.obj j)∈s.sg->∀ e lv ver rows ov,st.o j=some (.arr e lv ver rows ov)->∃ lv',st2.o j=some (.arr e lv' ver rows ov)
theorem un (h:Rel E G st a w) {hs:List Sh} {objs:List (Nat×OSh)} {vs:List Val} {us:List Value} {s0 s1 s2:FS} {l1 l2:List D} (hv:VRL E.H G w vs us) (h1:ah call st (pa E.H hs vs s0)=some (l1,s1)) (h2:ah call st (flO E.H objs s1)=some (l2,s2)) (hok:s2.ok objs=true) :
 ∃ G2 st2,Rel E G2 st2 a w/\Frz st st2 s2/\G.le G2/\(∀ b o,G.F b o->G2.F b o)/\gz E G2 w/\(∀ b o,G2.F b o->G.F b o\/∃ j,(j∈s2.fz\/∃ c,(c,Tgt.obj j)∈s2.sg)/\(∃ ob,st.o j=some ob)/\G.blk j b)/\(∀ i b,G2.blk i b->G.blk i b) ∧
  VRL E.H (ghR E.H G2 s2.sg objs) w (ar (fun c=>c) (l1++l2) hs 0).1 us/\(ar (fun c=>c) (l1++l2) hs 0).2=l1.length ∧
  (∀ c ob,(c,ob)∈unO (fun c=>c) (fun _=>0) (l1++l2) objs l1.length->(ghR E.H G2 s2.sg objs).U c/\OR E.H (ghR E.H G2 s2.sg objs) w c ob/\∀ b,(ghR E.H G2 s2.sg objs).blk c b->b<w.heap.size/\(E.w0.heap.size<=b\/E.lent b)/\∃ j ob,ai s2.sg c=some (.obj j)/\st.o j=some ob/\G.blk j b)/\Ren G (ghR E.H G2 s2.sg objs) s2.sg:=by
 obtain ⟨o1,o2,o3,o4,o5⟩:=FS.ok_spec hok;obtain ⟨⟨t1,p1⟩,p2,p3⟩:=jt h hs hv h1;obtain ⟨⟨t2,q1⟩,q2,q3⟩:=yp h objs h2;obtain ⟨Ga,sta,s1',ra,k1,k2,k3,kb,k4,k6⟩:=h.freezeN s2.fz;obtain ⟨G2,st2,l2',f2,r2,m1,m2,m3,mb,m4,m5,m6⟩:=ra.lowerN (na s2.sg objs) (qf o1 o5);have hle:G.le G2:=s1'.le.trans l2';have hF:∀ b o,G.F b o->G2.F b o:=fun b o hf=>f2 b o (s1'.F b o hf)
 have hblk:∀ i b,G2.blk i b->G.blk i b:=fun i b hb=>s1'.blk i b (m5 i b hb)
 have hlk:∀ {c:Nat} {t:Tgt},(c,t)∈s2.sg->ai s2.sg c=some t:=fun hm=>ef o3 hm
 have hren:Ren G (ghR E.H G2 s2.sg objs) s2.sg:={
  obj:=fun c j hm hU=>by
   have hl:=hlk hm;refine ⟨.inl ⟨_,hl⟩,?_,?_,?_⟩
   · simp only [ghR,hl]; exact hle.hv j hU
   · simp only [ghR,hl]; exact hle.bm j hU
   · simp only [ghR,hl]; exact hle.ly j hU
  new:=fun c hm=>by
   have hl:=hlk hm;exact ⟨.inl ⟨_,hl⟩,by simp only [ghR,hl]⟩ }
 have hz:rq E.H G st (ghR E.H G2 s2.sg objs).F w s2.fz:=k1.mono f2;have hr0:Rds (l1++l2) 0 (l1++l2):=fun i d hi=>by simp [nth,K1,hi]
 have hfst:=p3 (ghR E.H G2 s2.sg objs) (Ren.left (t:=t2) (q1▸hren:Ren G (ghR E.H G2 s2.sg objs) (s1.sg++t2))) (fun j hj=>hz j (q2 j hj)) hF (l1++l2) 0 hr0.left
 have hsnd:=q3 (ghR E.H G2 s2.sg objs) hren hz hF (l1++l2) l1.length (by have:=hr0.right; rwa [G8] at this)
 have htgt:∀ {c j:Nat},(c,Tgt.obj j)∈s2.sg->j∉s2.fz:=fun hm hj=>o2 _ hj (E4.2 ⟨_,hm,by simp [cu]⟩)
 have hnl:∀ {j:Nat},(∀ c,(c,Tgt.obj j)∉s2.sg)->j∉(na s2.sg objs).map (·.1):=fun hj hm=>by
  obtain ⟨⟨j',lv⟩,hp,hpe⟩:=D0.1 hm;simp only at hpe;subst hpe;obtain ⟨c,e,_,k⟩:=jh hp;exact hj c (al k)
 have hfrz:Frz st st2 s2:={
  alike:=⟨m3.1.trans k3.1,m3.2.1.trans k3.2.1,m3.2.2.trans k3.2.2⟩
  out:=fun j h1 h2=>(m1 j (hnl h2)).trans (k2 j h1)
  fz:=fun j hj e lv ver rows ho=>(m1 j (hnl fun c hc=>htgt hc hj)).trans (k6 j hj e lv ver rows ho)
  box:=fun j cs ho=>mb j cs (kb j cs ho)
  arr:=fun c j hc e lv ver rows ov ho=>m6 j e lv ver rows ov ((k2 j (htgt hc)).trans ho) }
 refine ⟨G2,st2,r2,hfrz,hle,hF,r2.core,fun b o hf=>?_,hblk,hfst.1,by have:=hfst.2; rwa [G8] at this,fun c ob hm=>?_,hren⟩
 · rcases m4 b o hf with hf | ⟨j,hj,⟨ob,hob⟩,hb⟩
   · rcases k4 b o hf with hf | ⟨j,hj,hob,hb⟩
     · exact .inl hf
     · exact .inr ⟨j,.inl hj,hob,hb⟩
   · obtain ⟨p,hp,hpe⟩:=D0.1 hj
     obtain ⟨j',lv⟩:=p;simp only at hpe;subst hpe;obtain ⟨c,e,_,k⟩:=jh hp;refine .inr ⟨j',.inr ⟨c,al k⟩,⟨ob,?_⟩,s1'.blk j' b hb⟩;rw [<- k2 j' (htgt (al k))]; exact hob
 · have hob:=hsnd c ob hm
   cases ob with
   | box cs' =>
    obtain ⟨j,cs,vs',ty,z1,z2,z3,z4,z5⟩:=hob;have hl:=hlk z1;have hj2:st2.o j=some (.box cs):=mb j cs (kb j cs z2);have hU:=(h.objs j _ z2).1;have ho:=(r2.objs j _ hj2).2;simp only [OR] at ho;obtain ⟨y1,y2,_⟩:=ho;refine ⟨.inl ⟨_,hl⟩,?_,fun b hb=>?_⟩
    · simp only [OR]
      have e1:(ghR E.H G2 s2.sg objs).bm c=G2.bm j:=by simp only [ghR,hl]
      have e2:(ghR E.H G2 s2.sg objs).blk c=G2.blk j:=by simp only [ghR,hl]
      rw [e1,e2];refine ⟨y1,y2,vs',ty,by rw [hle.bm j hU]; exact z3,z4,z5⟩
    · simp only [ghR,hl] at hb
      obtain ⟨x1,x2⟩:=r2.blk j _ b hj2 hb;exact ⟨x1,x2,j,_,hl,z2,hblk j b hb⟩
   | arr e lv ver rows ov =>
    obtain ⟨rfl,rfl,z3,z4⟩:=hob;rcases z4 with ⟨j,lv',ver',z5,z6,z7,z8⟩|⟨z5,rfl,ti,z6,z7⟩
    · have hl:=hlk z5
      have hj2:st2.o j=some (.arr e lv ver' rows none):=m2 j lv (zo z3 hl) e lv' ver' rows (by rw [k2 j (htgt z5)]; exact z6) z7
      have ho:=(r2.objs j _ hj2).2;have e1:(ghR E.H G2 s2.sg objs).bm c=G2.bm j:=by simp only [ghR,hl]
      have e2:(ghR E.H G2 s2.sg objs).blk c=G2.blk j:=by simp only [ghR,hl]
      have e3:(ghR E.H G2 s2.sg objs).hv c=G2.hv j:=by simp only [ghR,hl]
      have e4:(ghR E.H G2 s2.sg objs).ly c=G2.ly j:=by simp only [ghR,hl]
      have e5:(ghR E.H G2 s2.sg objs).nh c 0=G2.nh j (G2.vm j):=by simp only [ghR,hl]
      refine ⟨.inl ⟨_,hl⟩,?_,fun b hb=>?_⟩
      · simp only [OR] at ho ⊢
        obtain ⟨ti,A,cap,y1,y2,y3,y4,y5,y6,y7⟩:=ho;rw [e1,e2,e3,e4];refine ⟨ti,A,cap,y1,y2,y3,rfl,y5,y6,y7.imp (fun h=>by simpa only [lr,z8] using h) fun ⟨o,cur,t,x1,x2,x3,x4,x5⟩=>⟨o,cur,t,x1,x2,x3,by simpa only [gb,z8] using x4,?_⟩⟩
        rw [y4] at e5;simp only [bj] at x5 ⊢;cases lv <;> simp only [bc,e1,e2,e5] at x5 ⊢ <;> exact x5
      · rw [e2] at hb
        obtain ⟨x1,x2⟩:=r2.blk j _ b hj2 hb;exact ⟨x1,x2,j,_,hl,z6,hblk j b hb⟩
    · have hl:=hlk z5
      refine ⟨.inl ⟨_,hl⟩,?_,fun b hb=>by simp only [ghR,hl] at hb⟩
      simp only [OR];have e3:(ghR E.H G2 s2.sg objs).hv c=.slice none 0 0:=by simp only [ghR,hl]
      have e4:(ghR E.H G2 s2.sg objs).ly c=ti.lay:=by simp only [ghR,hl,ef o5 z3,z6,O3,K2]
      exact ⟨ti,none,0,z6,z7,e4,rfl,e3,D1 _,.inl ⟨rfl,trivial⟩⟩
end
end Go.Q
end
section
namespace Go.Q
open Go
open Go.RowKit (Below)
def Fix (X G:Gh):Prop:=∀ c,c<16->X.U c->G.U c/\G.hv c=X.hv c/\G.bm c=X.bm c/\G.ly c=X.ly c
theorem Fix.le {X G G':Gh} (h:Fix X G) (hl:G.le G'):Fix X G':=fun c hc hU=>by
 obtain ⟨k1,k2,k3,k4⟩:=h c hc hU;exact ⟨hl.U c k1,(hl.hv c k1).trans k2,(hl.bm c k1).trans k3,(hl.ly c k1).trans k4⟩
theorem Fix.refl (X:Gh):Fix X X:=fun c _ h=>⟨h,rfl,rfl,rfl⟩
theorem Az {sg:List (Nat×Tgt)} (h:Hh sg=true) {c:Nat} {t:Tgt} (hm:(c,t)∈sg) (hc:c<16):t=.obj c:=by
 have:=C6.1 h _ hm;simp only [Bool.or_eq_true,dn] at this;rcases this with this | this
 · omega
 · cases t with
   | obj j=>simp only [ay] at this; rw [this]
   | new=>simp at this
theorem Fix.ghR {X G:Gh} {H:Tab} {sg:List (Nat×Tgt)} {objs:List (Nat×OSh)} (h:Fix X G) (hs:Hh sg=true):Fix X (Q.ghR H G sg objs):=fun c hc hU=>by
 obtain ⟨k1,k2,k3,k4⟩:=h c hc hU;refine ⟨.inr ⟨hc,k1⟩,?_⟩;simp only [Q.ghR];cases hl:ai sg c with
 | none=>exact ⟨k2,k3,k4⟩
 | some t =>
  obtain rfl:=Az hs (al hl) hc;exact ⟨k2,k3,k4⟩
section
variable {call:Key->List D->R} {E:Env} {G G0:Gh} {st st0:St} {a:Act} {w:World}
theorem gz.ghR {G:Gh} {sg:List (Nat×Tgt)} {objs:List (Nat×OSh)} {H:Tab} (h:gz E G w):gz E (Q.ghR H G sg objs) w:=⟨h.fsz,h.f0,h.f1,h.fc,h.kept,h.size,h.os,h.tape,h.out,h.vars⟩
theorem qg (h:Rel E G st a w) {nt:Nat} {vals:List (Nat×Sh)} {objs:List (Nat×OSh)} {ls:List D} (hr:ah call st (Am E.H vals objs st)=some ls) :
 ∃ G',Rel E G' (eo nt vals objs ls) a w/\∀ X,Fix X G->Fix X G':=by
 simp only [Am,run_bind,ag,ab,B4] at hr;obtain ⟨⟨l1,s1⟩,h1,⟨l2,s2⟩,h2,⟨hok,hsg⟩,rfl⟩:=hr;have hv:∀ (l:List (Nat×Sh)),VRL E.H G w (l.map fun p=>st.t p.1) (l.map fun p=>a.tmps.getD p.1 undef):=fun l=>by
  induction l with
  | nil=>simp [VRL]
  | cons p l ih=>simp only [C0,VRL]; exact ⟨_,_,rfl,h.tmps p.1,ih⟩
 obtain ⟨G2,_,_,_,k1,k2,k3,k4,k5,k6,k7,k8,_⟩:=un h (hv vals) h1 h2 hok;obtain ⟨o1,o2,o3,o4,o5⟩:=FS.ok_spec hok;refine ⟨ghR E.H G2 s2.sg objs,Rel.unSt_ k3.ghR h.nt h.dfs k6 (fun i t hi=>.inl ?_) (fun c ob hm=>?_) (fun c ob b hm hb=>?_) (fun c c' ob ob' b hm hm' hb hb'=>?_) (fun c hc=>?_),fun X hX=>(hX.le k1).ghR hsg⟩
 · rw [List.getElem?_map] at hi ⊢
   cases hp:vals[i]? with
   | none=>rw [hp] at hi; simp at hi
   | some p=>rw [hp] at hi; simp only [O3,B7.injEq] at hi ⊢; rw [hi]
 · rw [k7] at hm
   obtain ⟨m1,m2,m3⟩:=k8 c ob hm;exact ⟨m1,m2,fun b hb=>⟨(m3 b hb).1,(m3 b hb).2.1⟩⟩
 · rw [k7] at hm
   obtain ⟨_,_,j,ob1,e1,e2,e3⟩:=(k8 c ob hm).2.2 b hb;exact h.pl j ob1 b e2 e3
 · rw [k7] at hm hm'
   obtain ⟨_,_,j,ob1,e1,e2,e3⟩:=(k8 c ob hm).2.2 b hb;obtain ⟨_,_,j',ob2,e4,e5,e6⟩:=(k8 c' ob' hm').2.2 b hb';obtain rfl:=h.sep j j' ob1 ob2 b e2 e5 e3 e6;exact mz o1 (al e1) (al e4)
 · rcases hc with ⟨t,ht⟩|⟨hc,_⟩
   · exact o4 _ (al ht)
   · omega
end
end Go.Q
end
section
namespace Go.Q
open Go
open Go.RowKit (Below)
section
variable {call:Key->List D->R} {E:Env} {X G G0:Gh} {st st0:St} {a:Act} {w:World}
def OpS (E:Env) (X:Gh) (call:Key->List D->R) (key:Key) (o:Oper):Prop :=
 ∀ (G:Gh) (st:St) (a:Act) (w:World) (eff:Eff) (K:Act->World->Prop) (Q:Exit->Act->World->Prop),Rel E G st a w->Fix X G->ah call st (opM E.H key (ev st) o)=some eff->rm E.nt o.dst →
  (∀ j∈eff.nw,st.u j=false)->eff.nw.Nodup->(∀ G' a' w',Rel E G' (((st.upd eff.ups).mark eff.nw).put o.dst eff.v) a' w'->Fix X G'->K a' w')->o.wp E.P a w K Q
theorem yq {key:Key} {o:Oper} (h:Rel E G st a w) (hX:Fix X G) {eff:Eff} (hr:Ran E G st a w o eff) (hd:rm E.nt o.dst) {K:Act->World->Prop} {Q:Exit->Act->World->Prop}
 (hK:∀ G' a' w',Rel E G' (((st.upd eff.ups).mark eff.nw).put o.dst eff.v) a' w'->Fix X G'->K a' w'):o.wp E.P a w K Q:=by
 obtain ⟨n,u,w',h1,h2,G',l1,r1,v1⟩:=hr;have hp:=r1.put hd v1;have:=hK G' _ w' hp (hX.le l1);unfold Oper.wp;rw [h1];rcases h2 with rfl | ⟨rfl,rfl⟩
 · exact this
 · exact this
theorem Be {key:Key} {draw:Bool} {ops:Array Oper} {bef:Array Nat} {o:Oper} {n:Nat} {fps:List Fp} {k:List Fp->St->R} {r:Nat×List D} (h:je E.H call key draw ops bef o n fps st k=some r) :
 ∃ eff fps',ah call st (opM E.H key (ev st) o)=some eff/\rm st.n o.dst/\(∀ j∈eff.nw,st.u j=false)/\eff.nw.Nodup/\k fps' (((st.upd eff.ups).mark eff.nw).put o.dst eff.v)=some r:=by
 unfold je at h;rw [eb,E2] at h;obtain ⟨eff,h1,h2⟩:=h;revert h2
 generalize hrd:rdO call st (opM E.H key (ev st) o) []=rd;generalize hb:((!draw||apart ops (bef.getD n 0) o ⟨n,rd,eff.ups.map (·.1)⟩ fps)&&((match o.dst with | some d=>E7 d st.n | none=>true)&&dw eff.nw&&eff.nw.all fun j=>!st.u j))=b
 intro h2;cases b with
 | false=>simp at h2
 | true =>
  simp only [B4,fo,C6,C5] at hb;obtain ⟨_,⟨hd,hn⟩,hu⟩:=hb;refine ⟨eff,_,h1,fun d hd'=>?_,hu,hn,h2⟩
  rw [hd'] at hd;simp only [E7,dn] at hd; exact hd
theorem uo (l:List Nat) (st:St):(st.mark l).n=st.n:=(cq l st).2.2
theorem Dc (st:St) (dst:Option Tmp) (v:Val):(st.put dst v).n=st.n:=by cases dst <;> rfl
theorem qh (st:St) (eff:Eff) (dst:Option Tmp):(((st.upd eff.ups).mark eff.nw).put dst eff.v).n=st.n:=by
 rw [Dc,uo,(co st eff.ups st).2.2]
theorem Rel.putSame (h:Rel E G st a w) {t:Nat} {v:Val} (hv:st.t t=v):st.put (some t) v=st:=by
 cases st with
 | mk n tt o u =>
  simp only [St.put] at hv ⊢;congr 1
  funext i
  by_cases e:i=t
  · subst e; rw [ae]; exact hv.symm
  · rw [aj _ _ e]
theorem Rel.putUnd (h:Rel E G st a w) (dst:Option Tmp):Rel E G (st.put dst .und) (a.put dst undef) w:=by
 cases dst with
 | none=>exact h
 | some d =>
  by_cases hd:d<E.nt
  · exact h.put (fun d' e=>by simp only [B7.injEq] at e; exact e▸hd) (by simp only [VR])
  · have hsz:¬ d<a.tmps.size:=by rw [h.nt]; exact hd
    refine { h with nt:=by simpa [Act.put] using h.nt,tmps:=fun t=>?_ }
    have e1:(a.put (some d) undef).tmps.getD t undef=a.tmps.getD t undef:=by
     simp [Act.put,Array.setIfInBounds,hsz]
    rw [e1];by_cases e:t=d
    · subst e
      simp only [St.put,ae,VR];simp [hsz]
    · simp only [St.put,aj _ _ e]; exact h.tmps t
theorem wm {key:Key} {ops:Array Oper} {bef:Array Nat} {Q:Exit->Act->World->Prop} {k:St->R} {r:Nat×List D} (hop:∀ o∈ops.toList,OpS E X call key o)
 (hk:∀ G st' a' w',Rel E G st' a' w'->Fix X G->st'.n=E.nt->k st'=some r->Q .normal a' w'):∀ (l:List Oper) (n:Nat) {fps:List Fp} {st:St} {G:Gh} {a:Act} {w:World},ops.toList.drop n=l->Rel E G st a w->Fix X G->st.n=E.nt →
 cm E.H call key false ops bef l n fps st k=some r->wpOps E.P ops Q (List.range' n l.length) a w
 | [],n,fps,st,G,a,w,hl,h,hX,hn,hr=>by
  simp only [cm] at hr;exact hk G st a w h hX hn hr
 | o::l,n,fps,st,G,a,w,hl,h,hX,hn,hr=>by
  have ho:ops[n]?=some o:=by
   have:=congrArg (fun l=>l[0]?) hl
   simpa using this
  have hl':ops.toList.drop (n+1)=l:=by rw [<- N4,hl]; rfl
  have hmem:o∈ops.toList:=G9 (hl▸B5 ..:o∈ops.toList.drop n);have ih:=fun {fps st G a w}=>wm (bef:=bef) hop hk l (n+1) (fps:=fps) (st:=st) (G:=G) (a:=a) (w:=w) hl'
  simp only [List.length_cons,List.range'_succ,wpOps,ho];rw [jf] at hr;have go:∀ {fps:List Fp},je E.H call key false ops bef o n fps st (fun fps st=>cm E.H call key false ops bef l n.succ fps st k)=some r->o.wp E.P a w (wpOps E.P ops Q (List.range' (n+1) l.length)) Q:=fun hr=>by
   obtain ⟨eff,fps',h1,h2,h3,h4,h5⟩:=Be hr;exact hop o hmem G st a w eff _ Q h hX h1 (hn▸h2) h3 h4 fun G' a' w' hR hX'=>ih hR hX' (by rw [qh]; exact hn) h5
  cases hg:o.guard with
  | none =>
   simp only [hg] at hr;rw [H5 (by simp [Region.wanted,hg])]
   exact .inl (go hr)
  | some gw =>
   obtain ⟨g,want⟩:=gw;simp only [hg] at hr;cases ht:(ops[g]?).bind (·.dst) with
   | none=>simp only [ht] at hr; simp at hr
   | some tg =>
    simp only [ht] at hr;have hv:=h.tmps tg;cases hs:st.t tg <;> simp only [hs] at hr <;> try (simp at hr; done)
    · rename_i b
      rw [hs] at hv;simp only [VR] at hv;have hy:yielded ops a.tmps g=some b:=by
       have:a.tmps[tg]?=some (.bool b):=by
        cases hq:a.tmps[tg]? with
        | none=>simp [hq,undef] at hv
        | some x=>simp [hq] at hv; rw [hv]
       simp [yielded,ht,this]
      rw [h.putSame hs] at hr;by_cases hb:b=want
      · rw [H5 hb] at hr
        rw [H5 (by simp [Region.wanted,hg,hy,hb])]
        exact .inl (go hr)
      · rw [H6 hb] at hr
        rw [H6 (by simp [Region.wanted,hg,hy,hb])]
        exact ih (h.putUnd o.dst) hX (by rw [Dc]; exact hn) (ii hr).2
    · rw [hs] at hv
      simp only [VR] at hv;have hy:yielded ops a.tmps g=none:=by
       cases hq:a.tmps[tg]? with
       | none=>simp [yielded,ht,hq]
       | some x=>simp [hq] at hv; subst hv; simp [yielded,ht,hq,undef]
      rw [H6 (by simp [Region.wanted,hg,hy])]
      exact ih (h.putUnd o.dst) hX (by rw [Dc]; exact hn) (ii hr).2
end
end Go.Q
end
section
namespace Go.Q
open Go
open Go.RowKit (Below)
section
variable {call:Key->List D->R} {E:Env} {X G G0:Gh} {st st0:St} {a:Act} {w:World}
def Dd (E:Env) (X:Gh) (k:Exit->St->R) (r:Nat×List D) (Q:Exit->Act->World->Prop):Prop :=
 ∀ e st' G' a' w',Rel E G' st' a' w'->Fix X G'->st'.n=E.nt->k e st'=some r->Q e a' w'
def ik (E:Env) (X:Gh) (call:Key->List D->R) (key:Key) (c:Code):Prop :=
 ∀ i,E.H.ki key=some i->∀ G a w ls x,Rel E G (eo E.nt i.pars i.objs ls) a w->Fix X G->call key ls=some x →
  c.wp E.P (fun e a' w'=>∃ y G',i.xs[x.1]?=some y/\e=ekE y.e/\Rel E G' (eo E.nt y.vals y.objs x.2) a' w'/\Fix X G') a w
theorem qi {nt:Nat} {x:Nat×List D} {k:Exit->St->R} {r:Nat×List D}:∀ (xs:List XS) (n:Nat),cn nt x k xs n=some r->∃ i y,x.1=n+i/\xs[i]?=some y/\k (ekE y.e) (eo nt y.vals y.objs x.2)=some r
 | [],n,h=>by simp [cn] at h
 | [y],n,h=>by
  simp only [cn] at h;cases hb:C2 x.1 n with
  | true=>rw [hb] at h; exact ⟨0,y,by rw [ay.1 hb]; rfl,rfl,h⟩
  | false=>rw [hb] at h; simp at h
 | y::z::xs,n,h=>by
  simp only [cn] at h;cases hb:C2 x.1 n with
  | true=>rw [hb] at h; exact ⟨0,y,by rw [ay.1 hb]; rfl,rfl,h⟩
  | false =>
   rw [hb] at h;obtain ⟨i,u,h1,h2,h3⟩:=qi (z::xs) n.succ h;exact ⟨i+1,u,by omega,by simpa using h2,h3⟩
theorem qj {key:Key} {i:KI} {c:Code} {k:Exit->St->R} {r:Nat×List D} {Q:Exit->Act->World->Prop} (hp:ik E X call key c) (hi:E.H.ki key=some i) (h:Rel E G st a w) (hX:Fix X G) (hn:st.n=E.nt)
 (hr:gy E.H call key i st k=some r) (hk:Dd E X k r Q):c.wp E.P Q a w:=by
 unfold gy at hr;rw [eb,E2] at hr;obtain ⟨ls,h1,h2⟩:=hr;simp only [E2] at h2;obtain ⟨x,h2,h3⟩:=h2;obtain ⟨G',r1,f1⟩:=qg h (nt:=E.nt) h1;refine wp_mono (hp i hi G' a w ls x r1 (f1 X hX) h2) fun e a' w' ⟨y,G2,y1,y2,y3,y4⟩=>?_
 obtain ⟨j,y',e1,e2,e3⟩:=qi i.xs 0 h3;rw [G8] at e1;rw [e1,e2] at y1;obtain rfl:y'=y:=by simpa using y1
 rw [hn] at e3;subst y2;refine hk _ _ G2 a' w' y3 y4 ?_ e3;unfold eo;rw [(dt _ _).2.2.1,(dr _ _).2.2.1];rfl
end
end Go.Q
end
section
namespace Go.Q
open Go
open Go.RowKit (Below)
section
variable {call:Key->List D->R} {E:Env} {X G G0:Gh} {st st0:St} {a:Act} {w:World}
def wn (E:Env) (X:Gh) (call:Key->List D->R) (key:Key):Prop :=
 ∀ (id:Nat) (ops:Array Oper) (G:Gh) (st:St) (a:Act) (w:World) (k:St->R) (r:Nat×List D) (Q:Exit->Act->World->Prop),Rel E G st a w->Fix X G->st.n=E.nt →
  cm E.H call key true ops (Region.before ops) ops.toList 0 [] st k=some r->(∀ G' st' a' w',Rel E G' st' a' w'->Fix X G'->st'.n=E.nt->k st'=some r->Q .normal a' w')->(Code.region id ops true).wp E.P Q a w
theorem Rel.know (h:Rel E G st a w) {t:Tmp} {v:Val} (hv:VR E.H G w v (a.tmps.getD t undef)):Rel E G (st.put (some t) v) a w :=
 { h with
  tmps:=fun i=>by
   by_cases e:i=t
   · subst e; simp only [St.put,ae]; exact hv
   · simp only [St.put,aj _ _ e]; exact h.tmps i }
theorem ge {f v:Nat} {body:Code} (hoc:fm E.H f v body=true) (hop:∀ o,OpS E X call ⟨f,v,0⟩ o) (hdr:wn E X call ⟨f,v,0⟩)
 (hbl:∀ id b,Sub (.block id b) body->ik E X call ⟨f,v,id+1⟩ (.block id b)) (hco:∀ t a b,Sub (.cond (.tmp t) a b) body->ik E X call ⟨f,v,1000+t⟩ (.cond (.tmp t) a b)) :
 ∀ (c:Code) {G:Gh} {st:St} {a:Act} {w:World} {k:Exit->St->R} {r:Nat×List D} {Q:Exit->Act->World->Prop},Sub c body->Rel E G st a w->Fix X G->st.n=E.nt->bx E.H call f v c st k=some r->Dd E X k r Q->c.wp E.P Q a w
 | .skip,G,st,a,w,k,r,Q,hs,h,hX,hn,hr,hk=>by simp only [bx] at hr; exact wp_skip (hk _ _ _ _ _ h hX hn hr)
 | .exit id,G,st,a,w,k,r,Q,hs,h,hX,hn,hr,hk=>by simp only [bx] at hr; exact wp_exit (hk _ _ _ _ _ h hX hn hr)
 | .ret,G,st,a,w,k,r,Q,hs,h,hX,hn,hr,hk=>by simp only [bx] at hr; exact wp_ret (hk _ _ _ _ _ h hX hn hr)
 | .seq x y,G,st,a,w,k,r,Q,hs,h,hX,hn,hr,hk=>by
  simp only [bx] at hr;refine wp_seq (ge hoc hop hdr hbl hco x ((Sub.seqL .refl).trans hs) h hX hn hr fun e st' G' a' w' h' hX' hn' hr'=>?_)
  cases e <;> simp only at hr' <;> first | exact ge hoc hop hdr hbl hco y ((Sub.seqR .refl).trans hs) h' hX' hn' hr' hk | exact hk _ _ _ _ _ h' hX' hn' hr'
 | .region id ops draw,G,st,a,w,k,r,Q,hs,h,hX,hn,hr,hk=>by
  simp only [bx] at hr;cases draw with
  | true=>exact hdr id ops G st a w _ r Q h hX hn hr fun G' st' a' w' h' hX' hn' hr'=>hk _ _ _ _ _ h' hX' hn' hr'
  | false =>
   refine wp_region ?_;have:=wm (Q:=Q) (fun o _=>hop o) (fun G' st' a' w' h' hX' hn' hr'=>hk _ _ _ _ _ h' hX' hn' hr') ops.toList 0 rfl h hX hn hr
   rwa [G7,<- List.range_eq_range'] at this
 | .block id b,G,st,a,w,k,r,Q,hs,h,hX,hn,hr,hk=>by
  simp only [bx] at hr;split at hr
  · rename_i i hi
    exact qj (hbl id b hs) hi h hX hn hr hk
  · refine wp_block (ge hoc hop hdr hbl hco b ((Sub.block .refl).trans hs) h hX hn hr fun e st' G' a' w' h' hX' hn' hr'=>?_)
    cases e <;> simp only at hr' <;> try exact hk _ _ _ _ _ h' hX' hn' hr'
    rename_i id';simp only [Exit.inBlock];by_cases e:id'=id
    · rw [H5 e]; rw [ay.2 e] at hr'; exact hk _ _ _ _ _ h' hX' hn' hr'
    · rw [H6 e]; rw [bf.2 e] at hr'; exact hk _ _ _ _ _ h' hX' hn' hr'
 | .cond c x y,G,st,a,w,k,r,Q,hs,h,hX,hn,hr,hk=>by
  have hx:=fun {G st a w}=>ge hoc hop hdr hbl hco x (G:=G) (st:=st) (a:=a) (w:=w) (k:=k) (r:=r) (Q:=Q) ((Sub.condL .refl).trans hs)
  have hy:=fun {G st a w}=>ge hoc hop hdr hbl hco y (G:=G) (st:=st) (a:=a) (w:=w) (k:=k) (r:=r) (Q:=Q) ((Sub.condR .refl).trans hs)
  cases c with
  | tmp t =>
   simp only [bx] at hr;split at hr
   · rename_i i hi
     exact qj (hco t x y hs) hi h hX hn hr hk
   · have hv:=h.tmps t
     cases hq:st.t t <;> simp only [hq] at hr <;> try (simp at hr; done)
     rotate_left
     · rw [hq] at hv
       simp only [VR] at hv;obtain ⟨b,hv⟩:=hv;obtain ⟨hr1,hr2⟩:=vv hr;refine wp_cond (t:=b) (by simpa [Act.eval] using hv) ?_
       cases b
       · exact hy (h.know (by rw [hv]; simp only [VR])) hX hn hr2 hk
       · exact hx (h.know (by rw [hv]; simp only [VR])) hX hn hr1 hk
     rename_i b;rw [hq] at hv;simp only [VR] at hv;refine wp_cond (t:=b) (by simpa [Act.eval] using hv) ?_
     cases b
     · simp only [H2,h.putSame hq] at hr
       exact hy h hX hn hr hk
     · simp only [H1,h.putSame hq] at hr
       exact hx h hX hn hr hk
  | const q =>
   simp only [bx] at hr;split at hr
   · rename_i b hq
     have hv:=h.ev (.const q);rw [hq] at hv;simp only [VR] at hv;refine wp_cond hv ?_;cases b
     · exact hy h hX hn hr hk
     · exact hx h hX hn hr hk
   · simp at hr
  | global q =>
   simp only [bx] at hr;split at hr
   · rename_i b hq
     have hv:=h.ev (.global q);rw [hq] at hv;simp only [VR] at hv;refine wp_cond hv ?_;cases b
     · exact hy h hX hn hr hk
     · exact hx h hX hn hr hk
   · simp at hr
  | func q =>
   simp only [bx] at hr;split at hr
   · rename_i b hq
     have hv:=h.ev (.func q);rw [hq] at hv;simp only [VR] at hv;refine wp_cond hv ?_;cases b
     · exact hy h hX hn hr hk
     · exact hx h hX hn hr hk
   · simp at hr
 | .scope b,G,st,a,w,k,r,Q,hs,h,hX,hn,hr,hk=>by
  simp only [bx] at hr;refine wp_scope_straight (ge hoc hop hdr hbl hco b ((Sub.scope .refl).trans hs) h hX hn hr fun e st' G' a' w' h' hX' hn' hr'=>?_)
  cases e <;> simp only at hr' <;> first | exact hk _ _ _ _ _ h' hX' hn' hr' | (simp at hr'; done)
 | .loop _,G,st,a,w,k,r,Q,hs,h,hX,hn,hr,hk=>by simp [bx] at hr
 | .rangeFunc _ _ _ _,G,st,a,w,k,r,Q,hs,h,hX,hn,hr,hk=>by simp [bx] at hr
 | .label _,G,st,a,w,k,r,Q,hs,h,hX,hn,hr,hk=>by simp [bx] at hr
 | .goto _,G,st,a,w,k,r,Q,hs,h,hX,hn,hr,hk=>by simp [bx] at hr
 | .refuse _,G,st,a,w,k,r,Q,hs,h,hX,hn,hr,hk=>by simp [bx] at hr
end
end Go.Q
end
section
namespace Go.Q
open Go
open Go.RowKit (Below)
def ji (P:Program) (c:Code) (Q:Exit->Act->World->Prop) (a:Act) (w:World):Prop :=
 ∀ (b:Frame) (k:List Item) (cs:List Frame),∃ e a' w',Q e a' w'/\Arrives P (lone (b.at a (.code c::.inLoop c::k)) cs w) b k cs e a' w'
theorem ji.wp {P:Program} {c:Code} {Q:Exit->Act->World->Prop} {a:Act} {w:World} (h:ji P c Q a w):(Code.loop c).wp P Q a w:=fun b k cs=>by
 obtain ⟨e,a',w',hq,harr⟩:=h b k cs;exact ⟨e,a',w',hq,.of_steps (.one step_loop) harr⟩
theorem ji.round {P:Program} {c:Code} {Q:Exit->Act->World->Prop} {a:Act} {w:World} (h:c.wp P (Exit.then (ji P c Q) Q) a w):ji P c Q a w:=by
 intro b k cs;obtain ⟨e,a₁,w₁,hq,harr⟩:=h b (.inLoop c::k) cs;cases e with
 | normal =>
  obtain ⟨e₂,a₂,w₂,hq₂,harr₂⟩:=hq b k cs;exact ⟨e₂,a₂,w₂,hq₂,.of_steps (Steps.trans harr (.one step_inLoop)) harr₂⟩
 | exit id=>exact ⟨_,a₁,w₁,hq,.pass (x:=.inLoop c) rfl (fun _ _=>.inl (by simp)) harr⟩
 | goto l=>exact ⟨_,a₁,w₁,hq,.pass (x:=.inLoop c) rfl (fun _ _=>.inl (by simp)) harr⟩
 | ret=>exact ⟨_,a₁,w₁,hq,.pass (x:=.inLoop c) rfl (fun _ _=>.inl (by simp)) harr⟩
 | panic ch=>exact ⟨_,a₁,w₁,hq,.pass (x:=.inLoop c) rfl (fun _ _=>.inl (by simp)) harr⟩
 | outgrown=>exact ⟨_,a₁,w₁,hq,.pass (x:=.inLoop c) rfl (fun _ _=>.inl (by simp)) harr⟩
end Go.Q
end
section
namespace Go.Q
open Go
open Go.RowKit (Below)
section
variable {call:Key->List D->R} {E:Env} {X G G0:Gh} {st st0:St} {a:Act} {w:World}
theorem Hp {k:EK} {e:Exit} (h:ekB k e=true):e=ekE k:=by
 cases k <;> cases e <;> simp [ekB,ekE] at h ⊢
 exact h.symm
theorem rr {H:Tab} {x:Nat×List D}:∀ (xs:List XS) (n:Nat) (e:Exit) (st:St),ea H call xs n e st=some x->∃ i y,xs[i]?=some y/\e=ekE y.e/\x.1=n+i/\ah call st (Am H y.vals y.objs st)=some x.2
 | [],n,e,st,h=>by simp [ea] at h
 | y::xs,n,e,st,h=>by
  simp only [ea] at h;cases hb:ekB y.e e with
  | true =>
   rw [hb] at h;simp only [H1,eb,E2,B7.injEq] at h;obtain ⟨ls,h1,rfl⟩:=h;exact ⟨0,y,rfl,Hp hb,rfl,h1⟩
  | false =>
   rw [hb] at h;obtain ⟨i,y',h1,h2,h3,h4⟩:=rr xs n.succ e st h;exact ⟨i+1,y',by simpa using h1,h2,by omega,h4⟩
def De (E:Env) (X:Gh) (i:KI) (x:Nat×List D) (e:Exit) (a:Act) (w:World):Prop :=
 ∃ y G',i.xs[x.1]?=some y/\e=ekE y.e/\Rel E G' (eo E.nt y.vals y.objs x.2) a w/\Fix X G'
theorem qk {i:KI} {x:Nat×List D} {e:Exit} (h:Rel E G st a w) (hX:Fix X G) (hr:ea E.H call i.xs 0 e st=some x):De E X i x e a w:=by
 obtain ⟨j,y,h1,h2,h3,h4⟩:=rr i.xs 0 e st hr;obtain ⟨G',r1,f1⟩:=qg h (nt:=E.nt) h4;rw [G8] at h3;exact ⟨y,G',by rw [h3]; exact h1,h2,r1,f1 X hX⟩
theorem Df (nt:Nat) (vals:List (Nat×Sh)) (objs:List (Nat×OSh)) (ls:List D):(eo nt vals objs ls).n=nt:=by
 unfold eo;rw [(dt _ _).2.2.1,(dr _ _).2.2.1];rfl
end
end Go.Q
end
section
namespace Go.Q
open Go
open Go.RowKit (Below)
def ql (P:Program) (body:Code) (n:Nat) (Q:Exit->Act->World->Prop) (a:Act) (w:World):Prop :=
 if n<=998 then ∀ b,findBlock n body=some b->match b with
  | .loop b'=>ji P b' (Exit.inBlock n Q) a w
  | b=>b.wp P (Exit.inBlock n Q) a w
 else ∀ x y,findCond (n-999) body=some (x,y)->(Code.cond (.tmp (n-999)) x y).wp P Q a w
def kt (P:Program) (H:Tab) (nt:Nat) (body:Code) (key:Key) (n:Nat) (ls:List D) (x:Nat×List D):Prop :=
 ∀ (E:Env) (X:Gh),E.P=P->E.H=H->E.nt=nt->∀ i,H.ki key=some i->∀ G a w,Rel E G (eo nt i.pars i.objs ls) a w->Fix X G->ql P body n (De E X i x) a w
section
variable {call:Key->List D->R} {E:Env} {X G G0:Gh} {st st0:St} {a:Act} {w:World}
theorem lz {f v:Nat} {body b:Code} {id:Nat} (hoc:fm E.H f v body=true) (hs:Sub (.block id b) body)
 (hT:∀ ls x,call ⟨f,v,id+1⟩ ls=some x->kt E.P E.H E.nt body ⟨f,v,id+1⟩ id ls x):ik E X call ⟨f,v,id+1⟩ (.block id b):=by
 intro i hi G a w ls x h hX hc;obtain ⟨hle,hf⟩:=uk hoc hs hi;have:=hT ls x hc E X rfl rfl rfl i hi G a w h hX;unfold ql at this;rw [H5 hle] at this;have:=this b hf;refine wp_block ?_;cases b <;> first | exact this | exact ji.wp this
theorem ol {f v:Nat} {body x y:Code} {t:Nat} (hoc:fm E.H f v body=true) (hs:Sub (.cond (.tmp t) x y) body)
 (hT:∀ ls z,call ⟨f,v,1000+t⟩ ls=some z->kt E.P E.H E.nt body ⟨f,v,1000+t⟩ (999+t) ls z):ik E X call ⟨f,v,1000+t⟩ (.cond (.tmp t) x y):=by
 intro i hi G a w ls z h hX hc;have hf:=wk hoc hs hi;have:=hT ls z hc E X rfl rfl rfl i hi G a w h hX;unfold ql at this;rw [H6 (by omega)] at this
 have e:999+t-999=t:=by omega
 rw [e] at this;exact this x y hf
end
end Go.Q
end
section
namespace Go.Q
open Go
open Go.RowKit (Below)
theorem cc {id:Nat} {b:Code}:∀ {c:Code},findBlock id c=some b->Sub (.block id b) c
 | .seq x y,h=>by
  simp only [findBlock] at h;split at h
  · rename_i c hc
    simp only [B7.injEq] at h; subst h;exact (cc hc).trans (.seqL .refl)
  · exact (cc h).trans (.seqR .refl)
 | .cond o x y,h=>by
  simp only [findBlock] at h;split at h
  · rename_i c hc
    simp only [B7.injEq] at h; subst h;exact (cc hc).trans (.condL .refl)
  · exact (cc h).trans (.condR .refl)
 | .block i x,h=>by
  simp only [findBlock] at h;cases hb:C2 i id with
  | true =>
   rw [hb] at h;simp only [H1,B7.injEq] at h;rw [ay.1 hb,h]; exact .refl
  | false=>rw [hb] at h; exact (cc h).trans (.block .refl)
 | .loop x,h=>by simp only [findBlock] at h; exact (cc h).trans (.loop .refl)
 | .scope x,h=>by simp only [findBlock] at h; exact (cc h).trans (.scope .refl)
 | .skip,h=>by simp [findBlock] at h
 | .region _ _ _,h=>by simp [findBlock] at h
 | .rangeFunc _ _ _ _,h=>by simp [findBlock] at h
 | .exit _,h=>by simp [findBlock] at h
 | .ret,h=>by simp [findBlock] at h
 | .label _,h=>by simp [findBlock] at h
 | .goto _,h=>by simp [findBlock] at h
 | .refuse _,h=>by simp [findBlock] at h
theorem cj {t:Nat} {x y:Code}:∀ {c:Code},findCond t c=some (x,y)->Sub (.cond (.tmp t) x y) c
 | .seq a b,h=>by
  simp only [findCond] at h;split at h
  · rename_i c hc
    simp only [B7.injEq] at h; subst h;exact (cj hc).trans (.seqL .refl)
  · exact (cj h).trans (.seqR .refl)
 | .cond o a b,h=>by
  cases ho:isT t o with
  | true =>
   cases o <;> simp [isT] at ho
   subst ho;simp only [findCond,ay.2 rfl,H1,B7.injEq,C8.injEq] at h;obtain ⟨rfl,rfl⟩:=h;exact .refl
  | false =>
   rw [em _ _ _ _ ho] at h;cases hc:findCond t a with
   | none=>rw [hc] at h; exact (cj (by simpa using h)).trans (.condR .refl)
   | some p=>rw [hc] at h; obtain rfl:p=(x,y):=by simpa using h
             exact (cj hc).trans (.condL .refl)
 | .block i a,h=>by simp only [findCond] at h; exact (cj h).trans (.block .refl)
 | .loop a,h=>by simp only [findCond] at h; exact (cj h).trans (.loop .refl)
 | .scope a,h=>by simp only [findCond] at h; exact (cj h).trans (.scope .refl)
 | .skip,h=>by simp [findCond] at h
 | .region _ _ _,h=>by simp [findCond] at h
 | .rangeFunc _ _ _ _,h=>by simp [findCond] at h
 | .exit _,h=>by simp [findCond] at h
 | .ret,h=>by simp [findCond] at h
 | .label _,h=>by simp [findCond] at h
 | .goto _,h=>by simp [findCond] at h
 | .refuse _,h=>by simp [findCond] at h
section
variable {call:Key->List D->R} {E:Env} {X G G0:Gh} {st st0:St} {a:Act} {w:World}
theorem wo {P:Program} {H:Tab} {f v n:Nat} {fn:Func} {body:Code} (hext:H.ext f=none) (hfn:P.funcs[f]?=some fn) (hbd:fn.body=some body)
 (hop:∀ (E:Env) (X:Gh),E.P=P->E.H=H->∀ o,OpS E X call ⟨f,v,0⟩ o) (hdr:∀ (E:Env) (X:Gh),E.P=P->E.H=H->wn E X call ⟨f,v,0⟩)
 (hcall:∀ m ls x,call ⟨f,v,m+1⟩ ls=some x->kt P H fn.ntmps body ⟨f,v,m+1⟩ m ls x) {ls:List D} {r:Nat×List D} (hr:step H call P ⟨f,v,n+1⟩ ls=some r):kt P H fn.ntmps body ⟨f,v,n+1⟩ n ls r:=by
 unfold step at hr;simp only [hext,hfn,hbd] at hr;cases hoc:fm H f v body with
 | false=>rw [hoc] at hr; simp at hr
 | true =>
  rw [hoc] at hr;simp only [H1] at hr;cases hi:H.ki ⟨f,v,n+1⟩ with
  | none=>simp only [hi] at hr; simp at hr
  | some i =>
   simp only [hi] at hr;intro E X eP eH eN i' hi' G a w h hX;rw [hi] at hi';obtain rfl:i=i':=by simpa using hi'
   have hbl:∀ id b,Sub (.block id b) body->ik E X call ⟨f,v,id+1⟩ (.block id b):=fun id b hs=>lz (by rw [eH]; exact hoc) hs fun ls x hx=>by rw [eP,eH,eN]; exact hcall id ls x hx
   have hco:∀ t a b,Sub (.cond (.tmp t) a b) body->ik E X call ⟨f,v,1000+t⟩ (.cond (.tmp t) a b):=fun t x y hs=>ol (by rw [eH]; exact hoc) hs fun ls x hx=>by
    rw [eP,eH,eN];have e:1000+t=(999+t)+1:=Nat.add_right_comm 999 1 t;rw [e] at hx ⊢;exact hcall (999+t) ls x hx
   have run:∀ (c:Code) {k:Exit->St->R} {Q:Exit->Act->World->Prop},Sub c body->bx H call f v c (eo fn.ntmps i.pars i.objs ls) k=some r->Dd E X k r Q->c.wp E.P Q a w:=fun c k Q hs hr hk =>
    ge (by rw [eH]; exact hoc) (hop E X eP eH) (hdr E X eP eH) hbl hco c hs h hX (by rw [Df,eN]) (by rw [eH]; exact hr) hk
   unfold ql;cases hb:J1 n 998 with
   | true =>
    rw [hb] at hr;simp only [H1] at hr;rw [H5 (dn.1 hb)];intro b hfb;have hsub:=cc hfb;rw [hfb] at hr
    -- leaving by an exit
    have hlv:∀ {e:Exit} {st':St} {G':Gh} {a':Act} {w':World},Rel E G' st' a' w'->Fix X G'->ea H call i.xs 0 e st'=some r->De E X i r e a' w':=fun h' hX' hl=>qk h' hX' (by rw [eH]; exact hl)
    have hexit:∀ {j:Nat} {st':St} {G':Gh} {a':Act} {w':World},Rel E G' st' a' w'->Fix X G'->ea H call i.xs 0 (bif C2 j n then .normal else .exit j) st'=some r->Exit.inBlock n (De E X i r) (.exit j) a' w':=fun {j st' G' a' w'} h' hX' hl=>by
     simp only [Exit.inBlock];by_cases e:j=n
     · rw [H5 e]; rw [ay.2 e] at hl; exact hlv h' hX' hl
     · rw [H6 e]; rw [bf.2 e] at hl; exact hlv h' hX' hl
    by_cases hlp:∃ b',b=.loop b'
    · obtain ⟨b',rfl⟩:=hlp
      simp only at hr ⊢;rw [<- eP];refine ji.round (run b' ((Sub.loop .refl).trans ((Sub.block .refl).trans hsub)) hr fun e st' G' a' w' h' hX' hn' hr'=>?_)
      cases e <;> simp only at hr'
      case normal =>
       rw [eb,E2] at hr';obtain ⟨ls',k1,k2⟩:=hr';obtain ⟨G2,r2,f2⟩:=qg h' (nt:=fn.ntmps) (by rw [eH]; exact k1)
       have:=hcall n ls' r k2 E X eP eH eN i hi G2 a' w' r2 (f2 X hX');unfold ql at this;rw [H5 (dn.1 hb)] at this;have:=this _ hfb;simp only [Exit.then]
       rw [eP]; exact this
      case exit j=>exact hexit h' hX' hr'
      all_goals exact hlv h' hX' hr'
    · have hnl:∀ b',b≠.loop b':=fun b' e=>hlp ⟨b',e⟩
      have hr2:bx H call f v b (eo fn.ntmps i.pars i.objs ls) (fun e st=>match e with
       | .exit j=>ea H call i.xs 0 (bif C2 j n then .normal else .exit j) st
       | e=>ea H call i.xs 0 e st)=some r:=by
       cases b <;> first | exact hr | exact absurd rfl (hnl _)
      have hgoal:b.wp P (Exit.inBlock n (De E X i r)) a w:=by
       rw [<- eP];refine run b ((Sub.block .refl).trans hsub) hr2 fun e st' G' a' w' h' hX' hn' hr'=>?_
       cases e <;> simp only at hr'
       case exit j=>exact hexit h' hX' hr'
       all_goals exact hlv h' hX' hr'
      cases b <;> first | exact hgoal | exact absurd rfl (hnl _)
   | false =>
    rw [hb] at hr;simp only [H2] at hr;rw [H6 (fun h=>by rw [dn.2 h] at hb; simp at hb)]
    intro x y hfc;have hsub:=cj hfc;rw [hfc] at hr;have hv:=h.tmps (n-999);cases hq:(eo fn.ntmps i.pars i.objs ls).t (n-999) <;> simp only [hq] at hr <;> try (simp at hr; done)
    rename_i b;rw [hq] at hv;simp only [VR] at hv;rw [<- eP];refine wp_cond (t:=b) (by simpa [Act.eval] using hv) ?_
    cases b
    · exact run y ((Sub.condR .refl).trans hsub) hr fun e st' G' a' w' h' hX' hn' hr'=>qk h' hX' (by rw [eH]; exact hr')
    · exact run x ((Sub.condL .refl).trans hsub) hr fun e st' G' a' w' h' hX' hn' hr'=>qk h' hX' (by rw [eH]; exact hr')
end
end Go.Q
end
section
namespace Go.Q
open Go
open Go.RowKit (Below)
section
variable {call:Key->List D->R}
theorem Bf (H:Tab) (key:Key) {ρ ρ':Operand->Val} (o:Oper) (h:∀ x∈o.op.operands,ρ x=ρ' x):opM H key ρ o=opM H key ρ' o:=by
 obtain ⟨dst,op,type,pos,after,guard⟩:=o;have pairs:∀ ps:Array (Nat×Operand),(∀ x∈(ps.toList.map (·.2)).toArray,ρ x=ρ' x)->(ps.toList.map fun p=>(p.1,ρ p.2))=(ps.toList.map fun p=>(p.1,ρ' p.2)):=fun ps hp =>
  F9 fun p hm=>by rw [hp p.2 (by simp only [List.mem_toArray,D0]; exact ⟨p,hm,rfl⟩)]
 cases op <;> simp only [Op.operands] at h <;> simp only [opM]
 case build t ps=>rw [pairs ps h]
 case buildSlice t n ps=>rw [pairs ps h]
 case makeFunc fn first caps =>
  have hc:caps.toList.map ρ=caps.toList.map ρ':=F9 fun x hx=>h x (by simp only [Array.mem_append]; exact .inr (by simpa using hx))
  cases fn <;> simp only [hc]
 case call c =>
  have ha:c.args.toList.map ρ=c.args.toList.map ρ':=F9 fun x hx=>h x (by simp only [Call.operands,Array.mem_append]; exact .inr (by simpa using hx))
  rw [ha];cases hc:c.callee with
  | value f=>have hf:ρ f=ρ' f:=h f (by simp [Call.operands,hc]); simp only [hf]
  | invoke r m=>rfl
  | builtin b=>cases b <;> rfl
 case slice t x lo hi mx=>cases lo <;> cases hi <;> cases mx <;> simp_all
 all_goals (first | rfl | (simp_all; done))
theorem gr {α:Type} {st:St}:∀ (m:M α) (rd:List Nat) (j:Nat),j∈rd->j∈rdO call st m rd
 | .ret _,rd,j,h=>h
 | .fail,rd,j,h=>h
 | .chk _ m,rd,j,h=>gr m rd j h
 | .alt b m n,rd,j,h=>by
  simp only [rdO];cases b
  · exact gr n rd j h
  · exact gr m rd j h
 | .get i f,rd,j,h=>gr (f (st.o i)) (i::rd) j (B6 _ h)
 | .ask key ls f,rd,j,h=>by
  simp only [rdO];split
  · exact gr _ rd j h
  · exact h
theorem fi {α:Type} {st st':St}:∀ (m:M α) (rd:List Nat),(∀ j∈rdO call st m rd,st'.o j=st.o j)->ah call st' m=ah call st m/\rdO call st' m rd=rdO call st m rd
 | .ret _,rd,h=>⟨rfl,rfl⟩
 | .fail,rd,h=>⟨rfl,rfl⟩
 | .chk b m,rd,h=>by
  have:=fi m rd h;simp only [ah,rdO];rw [this.1];exact ⟨rfl,this.2⟩
 | .alt b m n,rd,h=>by
  simp only [ah,rdO] at h ⊢;cases b
  · exact fi n rd h
  · exact fi m rd h
 | .get i f,rd,h=>by
  have hi:st'.o i=st.o i:=h i (gr (f (st.o i)) (i::rd) i (B5 ..));simp only [ah,rdO,hi];exact fi (f (st.o i)) (i::rd) h
 | .ask key ls f,rd,h=>by
  simp only [ah,rdO] at h ⊢;cases hc:call key ls with
  | none=>simp
  | some r =>
   simp only [hc] at h;simp only [Option.bind_some];exact fi (f r) rd h
def next (st:St) (eff:Eff) (dst:Option Tmp):St:=((st.upd eff.ups).mark eff.nw).put dst eff.v
theorem St.ext' {s s':St} (h1:s.n=s'.n) (h2:∀ t,s.t t=s'.t t) (h3:∀ j,s.o j=s'.o j) (h4:∀ j,s.u j=s'.u j):s=s':=by
 cases s; cases s'
 simp only at h1 h2 h3 h4;subst h1;congr 1 <;> funext x <;> simp [h2,h3,h4]
theorem ku:∀ (l:List Nat) (st:St) (j:Nat),(st.mark l).u j=(dm l j||st.u j)
 | [],st,j=>by simp [St.mark,dm]
 | i::r,st,j=>by
  simp only [St.mark];rw [ku r];simp only [dm,List.any_cons];by_cases e:j=i
  · subst e; simp [ae]
  · simp only [aj _ _ e,bf.2 e,Bool.false_or]
theorem yr (st:St) (eff:Eff) (dst:Option Tmp) (t:Tmp):(next st eff dst).t t=if dst=some t then eff.v else st.t t:=by
 have e:((st.upd eff.ups).mark eff.nw).t=st.t:=by rw [(cq eff.nw _).1,(co st eff.ups st).1]
 cases dst with
 | none=>simp [next,St.put,e]
 | some d =>
  simp only [next,St.put,e];by_cases h:t=d
  · subst h; simp [ae]
  · rw [aj _ _ h,H6 (fun e=>h (by simpa using e.symm))]
theorem kv (st:St) (eff:Eff) (dst:Option Tmp):(next st eff dst).o=(st.upd eff.ups).o:=by
 have:(next st eff dst).o=((st.upd eff.ups).mark eff.nw).o:=by cases dst <;> rfl
 rw [this,(cq eff.nw _).2.1]
theorem uq (st:St) (eff:Eff) (dst:Option Tmp) (j:Nat):(next st eff dst).u j=(dm eff.nw j||st.u j):=by
 have:(next st eff dst).u=((st.upd eff.ups).mark eff.nw).u:=by cases dst <;> rfl
 rw [this,ku,(co st eff.ups st).2.1]
theorem du {j:Nat}:∀ (l:List (Nat×Option Obj)) (st st':St),j∈l.map (·.1)->(st.upd l).o j=(st'.upd l).o j
 | [],st,st',h=>by simp at h
 | (i,ob)::r,st,st',h=>by
  simp only [St.upd];by_cases hr:j∈r.map (·.1)
  · exact du r _ _ hr
  · have hj:j=i:=by simpa [hr] using h
    have hn:∀ p∈r,p.1≠j:=fun p hp e=>hr (D0.2 ⟨p,hp,e⟩)
    rw [ce r _ hn,ce r _ hn];subst hj;simp [ae]
theorem aq {j:Nat} (l:List (Nat×Option Obj)) (st:St) (h:j∉l.map (·.1)):(st.upd l).o j=st.o j :=
 ce l st fun p hp e=>h (D0.2 ⟨p,hp,e⟩)
theorem Bg {st:St} {e1 e2:Eff} {d1 d2:Option Tmp} (hd:∀ d,d1=some d->d2≠some d) (hw:∀ j∈e1.ups.map (·.1),j∉e2.ups.map (·.1)) :
 next (next st e1 d1) e2 d2=next (next st e2 d2) e1 d1:=by
 have hn:∀ (s:St) e d,(next s e d).n=s.n:=fun s e d=>qh s e d
 refine St.ext' (by simp only [hn]) (fun t=>?_) (fun j=>?_) (fun j=>?_)
 · simp only [yr]
   by_cases h1:d1=some t
   · rw [H6 (hd t h1),H5 h1,H5 h1]
   · rw [H6 h1,H6 h1]
 · simp only [kv]
   by_cases h1:j∈e1.ups.map (·.1)
   · rw [aq e2.ups _ (hw j h1),kv]
     exact du _ _ _ h1
   · by_cases h2:j∈e2.ups.map (·.1)
     · rw [aq e1.ups _ h1,kv]
       exact du _ _ _ h2
     · rw [aq e2.ups _ h2,aq e1.ups _ h1,kv,kv,aq e1.ups _ h1,aq e2.ups _ h2]
 · simp only [uq]
   cases dm e1.nw j <;> cases dm e2.nw j <;> simp
variable {H:Tab} {key:Key} {ops:Array Oper}
def Gd (ops:Array Oper) (st:St) (o:Oper):Option Bool :=
 match o.guard with
 | none=>some true
 | some (g,want)=>match (ops[g]?).bind (·.dst) with
  | none=>none
  | some tg=>match st.t tg with
   | .und=>some false
   | .bool b=>some (b==want)
   | _=>none
def Ln:Eff:=⟨.und,[],[]⟩
def Ok (H:Tab) (call:Key->List D->R) (key:Key) (ops:Array Oper) (st:St) (o:Oper) (p:Fp) (eff:Eff):Prop :=
 (Gd ops st o=some false/\eff=Ln) ∨
 (Gd ops st o=some true/\ah call st (opM H key (ev st) o)=some eff/\p.rd=rdO call st (opM H key (ev st) o) []/\rm st.n o.dst/\eff.nw.Nodup/\∀ j∈eff.nw,st.u j=false)
def One (H:Tab) (call:Key->List D->R) (key:Key) (ops:Array Oper) (p:Fp) (st st1:St):Prop :=
 ∃ o eff,ops[p.ix]?=some o/\p.wr=eff.ups.map (·.1)/\st1=next st eff o.dst/\Ok H call key ops st o p eff
inductive Tr (H:Tab) (call:Key->List D->R) (key:Key) (ops:Array Oper):List Fp->St->St->Prop
 | nil (st:St):Tr H call key ops [] st st
 | cons {p:Fp} {l:List Fp} {st st1 st2:St}:One H call key ops p st st1->Tr H call key ops l st1 st2->Tr H call key ops (p::l) st st2
def Ap (ops:Array Oper) (p q:Fp):Prop :=
 ∃ o o',ops[p.ix]?=some o/\ops[q.ix]?=some o'/\Oper.apart ops o o'=true/\(∀ j∈p.wr,j∉q.rd/\j∉q.wr)/\∀ j∈q.wr,j∉p.rd
theorem Ok.congr {st st':St} {o:Oper} {p:Fp} {eff:Eff} (h:Ok H call key ops st o p eff) (hn:st'.n=st.n) (ht:∀ t∈o.looksAt ops,st'.t t=st.t t) (ho:∀ j∈p.rd,st'.o j=st.o j)
 (hu:∀ j∈eff.nw,st.u j=false->st'.u j=false):Ok H call key ops st' o p eff:=by
 have hg:Gd ops st' o=Gd ops st o:=by
  unfold Gd;cases hg:o.guard with
  | none=>rfl
  | some gw =>
   obtain ⟨g,want⟩:=gw;simp only;cases hd:(ops[g]?).bind (·.dst) with
   | none=>rfl
   | some tg =>
    simp only;rw [ht tg (by simp [Oper.looksAt,hg,hd])]
 have he:opM H key (ev st') o=opM H key (ev st) o:=Bf H key o fun x hx=>by
  cases x with
  | tmp t=>exact ht t (J0 _ (List.mem_filterMap.2 ⟨.tmp t,by simpa using hx,rfl⟩))
  | _=>rfl
 rcases h with ⟨h1,h2⟩|⟨h1,h2,h3,h4,h5,h6⟩
 · exact .inl ⟨hg.trans h1,h2⟩
 · have:=fi (call:=call) (st:=st) (st':=st') (opM H key (ev st) o) [] fun j hj=>ho j (h3▸hj)
   refine .inr ⟨hg.trans h1,?_,?_,hn▸h4,h5,fun j hj=>hu j hj (h6 j hj)⟩
   · rw [he,this.1]; exact h2
   · rw [he,this.2]; exact h3
theorem One.swap {p q:Fp} {st st1 st2:St} (h1:One H call key ops p st st1) (h2:One H call key ops q st1 st2) (ha:Ap ops p q):∃ st',One H call key ops q st st'/\One H call key ops p st' st2:=by
 obtain ⟨o,eff,a1,a2,rfl,a4⟩:=h1;obtain ⟨o',eff',b1,b2,rfl,b4⟩:=h2;obtain ⟨x,x',c1,c2,c3,c4,c5⟩:=ha;obtain rfl:o=x:=by rw [a1] at c1; simpa using c1
 obtain rfl:o'=x':=by rw [b1] at c2; simpa using c2
 obtain ⟨d1,d2,d3⟩:=Oper.apart_spec c3;have hu:∀ j,j∈eff'.nw->j∉eff.nw\/eff'.nw=[]:=fun j hj=>by
  rcases b4 with ⟨_,rfl⟩|⟨_,_,_,_,_,h⟩
  · exact .inr rfl
  · have:=h j hj
    rw [uq] at this;refine .inl fun hm=>?_
    rw [(cx _ _).2 hm] at this;simp at this
 refine ⟨next st eff' o'.dst,⟨o',eff',b1,b2,rfl,b4.congr (qh ..).symm (fun t ht=>?_) (fun j hj=>?_) (fun j hj h=>?_)⟩,o,eff,a1,a2,?_,a4.congr (qh ..) (fun t ht=>?_) (fun j hj=>?_) (fun j hj h=>?_)⟩
 · rw [yr,H6 fun e=>d1 t e ht]
 · rw [kv,aq _ _ fun hm=>(c4 j (a2▸hm)).1 hj]
 · rw [uq] at h; cases hs:st.u j <;> simp [hs] at h ⊢
 · exact Bg d2 fun j hj hj'=>(c4 j (a2▸hj)).2 (b2▸hj')
 · rw [yr,H6 fun e=>d3 t e ht]
 · rw [kv,aq _ _ fun hm=>c5 j (b2▸hm) hj]
 · rw [uq,h,Bool.or_false]
   cases hm:dm eff'.nw j with
   | false=>rfl
   | true =>
    have hm:=(cx _ _).1 hm;rcases hu j hm with h' | h'
    · exact absurd hj h'
    · rw [h'] at hm; simp at hm
theorem Tr.front {q:Fp} {post:List Fp} {st2:St}:∀ {pre:List Fp} {st:St},Tr H call key ops (pre++q::post) st st2->(∀ p∈pre,Ap ops p q)->Tr H call key ops (q::(pre++post)) st st2
 | [],st,h,_=>h
 | p::pre,st,h,ha=>by
  cases h with
  | cons h1 h2 =>
   cases h2.front fun p' hp'=>ha p' (B6 _ hp') with
   | cons h3 h4 =>
    obtain ⟨st',k1,k2⟩:=h1.swap h3 (ha p (B5 ..));exact .cons k1 (.cons k2 h4)
end
end Go.Q
end
