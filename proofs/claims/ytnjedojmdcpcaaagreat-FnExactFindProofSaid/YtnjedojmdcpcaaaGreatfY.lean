/- The functions of this seat, as that machine runs them. -/
import Derived.Test.YtnjedojmdcpcaaaGreatQD
import Derived.Test.YtnjedojmdcpcaaaGreatfX2
import Derived.Test.YtnjedojmdcpcaaaGreatChecked
set_option linter.unusedVariables false
namespace Go.Proofs
open Go.Shelf
def Tryz.lays190_ren:Go.Shelf.Ren:=⟨fun | 190=>312 | 125=>344 | 258=>343 | 128=>359 | 129=>360 | 302=>350 | 303=>351 | 304=>352 | 305=>353 | 306=>354 | 307=>355 | 308=>356 | 309=>357 | 310=>358 | 333=>361 | 329=>362 | 330=>363 | 334=>364 | 335=>365 | 336=>366 | 344=>367 | n=>n,fun | 31=>22 | 9=>9 | 3=>3 | 46=>356 | 0=>0 | 51=>368 | 53=>370 | 4=>4 | 183=>361 | 182=>360 | 131=>192 | 5=>5 | 218=>371 | 222=>375 | 228=>377 | 229=>378 | n=>n,fun | n=>n⟩
theorem Tryz.lays190:Go.Proofs.Lays.n190 Tryz.prog Tryz.lays190_ren:={
 mixed:=by kernel_rfl
 f125:=Tryz.func344.trans (congrArg some (by kernel_rfl))
 f128:=Tryz.func359.trans (congrArg some (by kernel_rfl))
 f129:=Tryz.func360.trans (congrArg some (by kernel_rfl))
 f190:=Tryz.func312.trans (congrArg some (by kernel_rfl))
 f258:=Tryz.func343.trans (congrArg some (by kernel_rfl))
 f302:=Tryz.func350.trans (congrArg some (by kernel_rfl))
 f303:=Tryz.func351.trans (congrArg some (by kernel_rfl))
 f304:=Tryz.func352.trans (congrArg some (by kernel_rfl))
 f305:=Tryz.func353.trans (congrArg some (by kernel_rfl))
 f306:=Tryz.func354.trans (congrArg some (by kernel_rfl))
 f307:=Tryz.func355.trans (congrArg some (by kernel_rfl))
 f308:=Tryz.func356.trans (congrArg some (by kernel_rfl))
 f309:=Tryz.func357.trans (congrArg some (by kernel_rfl))
 f310:=Tryz.func358.trans (congrArg some (by kernel_rfl))
 f329:=Tryz.func362.trans (congrArg some (by kernel_rfl))
 f330:=Tryz.func363.trans (congrArg some (by kernel_rfl))
 f333:=Tryz.func361.trans (congrArg some (by kernel_rfl))
 f334:=Tryz.func364.trans (congrArg some (by kernel_rfl))
 f335:=Tryz.func365.trans (congrArg some (by kernel_rfl))
 f336:=Tryz.func366.trans (congrArg some (by kernel_rfl))
 f344:=Tryz.func367.trans (congrArg some (by kernel_rfl))
 t0:=Tryz.underlying0
 a0:=Tryz.isAgg0
 z0:=Tryz.sizeOf0
 v0:=Tryz.zeroValue0
 t3:=Tryz.underlying3
 a3:=Tryz.isAgg3
 z3:=Tryz.sizeOf3
 v3:=Tryz.zeroValue3
 t4:=Tryz.underlying4
 a4:=Tryz.isAgg4
 z4:=Tryz.sizeOf4
 v4:=Tryz.zeroValue4
 t5:=Tryz.underlying5
 a5:=Tryz.isAgg5
 z5:=Tryz.sizeOf5
 v5:=Tryz.zeroValue5
 t9:=Tryz.underlying9
 a9:=Tryz.isAgg9
 z9:=Tryz.sizeOf9
 v9:=Tryz.zeroValue9
 t31:=Tryz.underlying22
 a31:=Tryz.isAgg22
 z31:=Tryz.sizeOf22
 v31:=Tryz.zeroValue22
 t46:=Tryz.underlying356
 a46:=Tryz.isAgg356
 z46:=Tryz.sizeOf356
 v46:=Tryz.zeroValue356
 t51:=Tryz.underlying368
 a51:=Tryz.isAgg368
 z51:=Tryz.sizeOf368
 v51:=Tryz.zeroValue368
 t53:=Tryz.underlying370
 a53:=Tryz.isAgg370
 z53:=Tryz.sizeOf370
 v53:=Tryz.zeroValue370
 t131:=Tryz.underlying192
 a131:=Tryz.isAgg192
 z131:=Tryz.sizeOf192
 v131:=Tryz.zeroValue192
 t182:=Tryz.underlying360
 a182:=Tryz.isAgg360
 z182:=Tryz.sizeOf360
 v182:=Tryz.zeroValue360
 t183:=Tryz.underlying361
 a183:=Tryz.isAgg361
 z183:=Tryz.sizeOf361
 v183:=Tryz.zeroValue361
 t218:=Tryz.underlying371
 a218:=Tryz.isAgg371
 z218:=Tryz.sizeOf371
 v218:=Tryz.zeroValue371
 t222:=Tryz.underlying375
 a222:=Tryz.isAgg375
 z222:=Tryz.sizeOf375
 v222:=Tryz.zeroValue375
 t228:=Tryz.underlying377
 a228:=Tryz.isAgg377
 z228:=Tryz.sizeOf377
 v228:=Tryz.zeroValue377
 t229:=Tryz.underlying378
 a229:=Tryz.isAgg378
 z229:=Tryz.sizeOf378
 v229:=Tryz.zeroValue378 }
def Tryz.lays194_ren:Go.Shelf.Ren:=⟨fun | 194=>313 | n=>n,fun | 31=>22 | 9=>9 | 3=>3 | 4=>4 | 0=>0 | n=>n,fun | n=>n⟩
theorem Tryz.lays194:Go.Proofs.Lays.n194 Tryz.prog Tryz.lays194_ren:={
 mixed:=by kernel_rfl
 f194:=Tryz.func313.trans (congrArg some (by kernel_rfl))
 t0:=Tryz.underlying0
 a0:=Tryz.isAgg0
 z0:=Tryz.sizeOf0
 v0:=Tryz.zeroValue0
 t3:=Tryz.underlying3
 a3:=Tryz.isAgg3
 z3:=Tryz.sizeOf3
 v3:=Tryz.zeroValue3
 t4:=Tryz.underlying4
 a4:=Tryz.isAgg4
 z4:=Tryz.sizeOf4
 v4:=Tryz.zeroValue4
 t9:=Tryz.underlying9
 a9:=Tryz.isAgg9
 z9:=Tryz.sizeOf9
 v9:=Tryz.zeroValue9
 t31:=Tryz.underlying22
 a31:=Tryz.isAgg22
 z31:=Tryz.sizeOf22
 v31:=Tryz.zeroValue22 }
end Go.Proofs
namespace Go.Q.S
open Go Go.Q Go.Proofs
theorem kiF_mem:∀ {l:List (Nat × Nat × KI)} {v n:Nat} {i:KI},kiF l v n=some i->∃ a b,(a,b,i)∈l
 | [],v,n,i,h=>by simp [kiF] at h
 | (a,b,x)::r,v,n,i,h=>by
  unfold kiF at h;cases hb:Nat.beq a v&&Nat.beq b n with
  | true=>rw [hb] at h; simp only [cond_true,Option.some.injEq] at h; exact ⟨a,b,by rw [h]; exact List.mem_cons_self ..⟩
  | false =>
   rw [hb] at h;obtain ⟨a',b',h'⟩:=kiF_mem h;exact ⟨a',b',List.mem_cons_of_mem _ h'⟩
theorem ext_ok:∀ f g,H.ext f=some g->∀ v ls x,g v ls=some x->FnT Tryz.prog H ⟨f,v,0⟩ ls x:=fun f g h v ls x hx=>by
 have h:lookN extL f=some g:=h;simp only [extL,lookN] at h;cases h1:Nat.beq 312 f with
 | true =>
  rw [h1] at h;simp only [cond_true,Option.some.injEq] at h;subst h;obtain rfl:=beqN.1 h1;refine sort_fnT Go.Proofs.Tryz.lays190 rfl (E:=9) (fl:=[]) rfl Tryz.func312 (fun he=>by cases he) (of_decide_eq_false (by kernel_rfl)) (fun i hi=>?_) hx
  obtain ⟨a,b,hm⟩:=kiF_mem (l:=[(0,0,⟨[(0,.hd 0)],[(0,.arr 9 .deep)],[⟨.ret,[],[(0,.arr 9 .deep)]⟩]⟩)]) hi;simp only [List.mem_cons,List.not_mem_nil,or_false,Prod.mk.injEq] at hm;exact hm.2.2
 | false =>
 rw [h1] at h;simp only [cond_false] at h;cases h1:Nat.beq 313 f with
 | true =>
  rw [h1] at h;simp only [cond_true,Option.some.injEq] at h;subst h;obtain rfl:=beqN.1 h1;refine comp_fnT Go.Proofs.Tryz.lays194 rfl (E:=9) (fl:=[]) rfl Tryz.func313 (fun he=>by cases he) (of_decide_eq_false (by kernel_rfl)) (fun i hi=>?_) hx
  obtain ⟨a,b,hm⟩:=kiF_mem (l:=[(0,0,⟨[(0,.hd 0)],[(0,.arr 9 .deep)],[⟨.ret,[(0,.hd 16)],[(16,.arr 9 .deep)]⟩]⟩)]) hi;simp only [List.mem_cons,List.not_mem_nil,or_false,Prod.mk.injEq] at hm;exact hm.2.2
 | false =>
 rw [h1] at h;simp only [cond_false] at h;simp at h
theorem fits:Fits Tryz.prog H where
 ty:=tyOK_of (l:=tyL) (fun _=>rfl) (by kernel_rfl)
 eq:=eqOK_of (l:=eqL) (fun _=>rfl) (by kernel_rfl)
 mixed:=Tryz.checked.mixed
 names:=names_of (by kernel_rfl)
 ext:=ext_ok
end Go.Q.S
