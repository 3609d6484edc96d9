/- The functions of this seat, as that machine runs them, part 2. -/
import Derived.Test.YtebncngjklhbfaaGreatPA
import Derived.Test.YtebncngjklhbfaaGreatQD
import Derived.Test.YtebncngjklhbfaaGreatfqX2
import Derived.Test.YtebncngjklhbfaaGreatChecked
set_option linter.unusedVariables false
set_option linter.unusedSimpArgs false
section
namespace Go.Proofs
open Go.Shelf
def Tryz.lays190_ren:Go.Shelf.Ren:=⟨fun | 190=>206 | 125=>218 | 258=>217 | 128=>229 | 129=>230 | 302=>220 | 303=>221 | 304=>222 | 305=>223 | 306=>224 | 307=>225 | 308=>226 | 309=>227 | 310=>228 | 333=>231 | 329=>232 | 330=>233 | 334=>234 | 335=>235 | 336=>236 | 344=>237 | n=>n,fun | 31=>24 | 9=>9 | 3=>3 | 46=>169 | 0=>0 | 51=>221 | 53=>223 | 4=>4 | 183=>213 | 182=>212 | 131=>218 | 5=>5 | 218=>224 | 222=>228 | 228=>230 | 229=>231 | n=>n,fun | n=>n⟩
theorem Tryz.lays190:Go.Proofs.Lays.n190 Tryz.prog Tryz.lays190_ren:={
 mixed:=by kernel_rfl
 f125:=Tryz.func218.trans (congrArg some (by kernel_rfl))
 f128:=Tryz.func229.trans (congrArg some (by kernel_rfl))
 f129:=Tryz.func230.trans (congrArg some (by kernel_rfl))
 f190:=Tryz.func206.trans (congrArg some (by kernel_rfl))
 f258:=Tryz.func217.trans (congrArg some (by kernel_rfl))
 f302:=Tryz.func220.trans (congrArg some (by kernel_rfl))
 f303:=Tryz.func221.trans (congrArg some (by kernel_rfl))
 f304:=Tryz.func222.trans (congrArg some (by kernel_rfl))
 f305:=Tryz.func223.trans (congrArg some (by kernel_rfl))
 f306:=Tryz.func224.trans (congrArg some (by kernel_rfl))
 f307:=Tryz.func225.trans (congrArg some (by kernel_rfl))
 f308:=Tryz.func226.trans (congrArg some (by kernel_rfl))
 f309:=Tryz.func227.trans (congrArg some (by kernel_rfl))
 f310:=Tryz.func228.trans (congrArg some (by kernel_rfl))
 f329:=Tryz.func232.trans (congrArg some (by kernel_rfl))
 f330:=Tryz.func233.trans (congrArg some (by kernel_rfl))
 f333:=Tryz.func231.trans (congrArg some (by kernel_rfl))
 f334:=Tryz.func234.trans (congrArg some (by kernel_rfl))
 f335:=Tryz.func235.trans (congrArg some (by kernel_rfl))
 f336:=Tryz.func236.trans (congrArg some (by kernel_rfl))
 f344:=Tryz.func237.trans (congrArg some (by kernel_rfl))
 t0:=Tryz.underlying0
 a0:=Tryz.isAgg0
 z0:=Tryz.sizeOf0
 v0:=Tryz.zeroValue0
 t3:=Tryz.underlying3
 a3:=Tryz.isAgg3
 z3:=Tryz.sizeOf3
 v3:=Tryz.zeroValue3
 t4:=Tryz.underlying4
 a4:=Tryz.isAgg4
 z4:=Tryz.sizeOf4
 v4:=Tryz.zeroValue4
 t5:=Tryz.underlying5
 a5:=Tryz.isAgg5
 z5:=Tryz.sizeOf5
 v5:=Tryz.zeroValue5
 t9:=Tryz.underlying9
 a9:=Tryz.isAgg9
 z9:=Tryz.sizeOf9
 v9:=Tryz.zeroValue9
 t31:=Tryz.underlying24
 a31:=Tryz.isAgg24
 z31:=Tryz.sizeOf24
 v31:=Tryz.zeroValue24
 t46:=Tryz.underlying169
 a46:=Tryz.isAgg169
 z46:=Tryz.sizeOf169
 v46:=Tryz.zeroValue169
 t51:=Tryz.underlying221
 a51:=Tryz.isAgg221
 z51:=Tryz.sizeOf221
 v51:=Tryz.zeroValue221
 t53:=Tryz.underlying223
 a53:=Tryz.isAgg223
 z53:=Tryz.sizeOf223
 v53:=Tryz.zeroValue223
 t131:=Tryz.underlying218
 a131:=Tryz.isAgg218
 z131:=Tryz.sizeOf218
 v131:=Tryz.zeroValue218
 t182:=Tryz.underlying212
 a182:=Tryz.isAgg212
 z182:=Tryz.sizeOf212
 v182:=Tryz.zeroValue212
 t183:=Tryz.underlying213
 a183:=Tryz.isAgg213
 z183:=Tryz.sizeOf213
 v183:=Tryz.zeroValue213
 t218:=Tryz.underlying224
 a218:=Tryz.isAgg224
 z218:=Tryz.sizeOf224
 v218:=Tryz.zeroValue224
 t222:=Tryz.underlying228
 a222:=Tryz.isAgg228
 z222:=Tryz.sizeOf228
 v222:=Tryz.zeroValue228
 t228:=Tryz.underlying230
 a228:=Tryz.isAgg230
 z228:=Tryz.sizeOf230
 v228:=Tryz.zeroValue230
 t229:=Tryz.underlying231
 a229:=Tryz.isAgg231
 z229:=Tryz.sizeOf231
 v229:=Tryz.zeroValue231 }
def Tryz.lays194_ren:Go.Shelf.Ren:=⟨fun | 194=>207 | n=>n,fun | 31=>24 | 9=>9 | 3=>3 | 4=>4 | 0=>0 | n=>n,fun | n=>n⟩
theorem Tryz.lays194:Go.Proofs.Lays.n194 Tryz.prog Tryz.lays194_ren:={
 mixed:=by kernel_rfl
 f194:=Tryz.func207.trans (congrArg some (by kernel_rfl))
 t0:=Tryz.underlying0
 a0:=Tryz.isAgg0
 z0:=Tryz.sizeOf0
 v0:=Tryz.zeroValue0
 t3:=Tryz.underlying3
 a3:=Tryz.isAgg3
 z3:=Tryz.sizeOf3
 v3:=Tryz.zeroValue3
 t4:=Tryz.underlying4
 a4:=Tryz.isAgg4
 z4:=Tryz.sizeOf4
 v4:=Tryz.zeroValue4
 t9:=Tryz.underlying9
 a9:=Tryz.isAgg9
 z9:=Tryz.sizeOf9
 v9:=Tryz.zeroValue9
 t31:=Tryz.underlying24
 a31:=Tryz.isAgg24
 z31:=Tryz.sizeOf24
 v31:=Tryz.zeroValue24 }
end Go.Proofs
namespace Go.Q.S
open Go Go.Q Go.Proofs
theorem kiF_mem:∀ {l:List (Nat × Nat × KI)} {v n:Nat} {i:KI},kiF l v n=some i->∃ a b,(a,b,i)∈l
 | [],v,n,i,h=>by simp [kiF] at h
 | (a,b,x)::r,v,n,i,h=>by
  unfold kiF at h;cases hb:Nat.beq a v&&Nat.beq b n with
  | true=>rw [hb] at h; simp only [H1,Option.some.injEq] at h; exact ⟨a,b,by rw [h]; exact List.mem_cons_self ..⟩
  | false =>
   rw [hb] at h;obtain ⟨a',b',h'⟩:=kiF_mem h;exact ⟨a',b',List.mem_cons_of_mem _ h'⟩
theorem ext_ok:∀ f g,H.ext f=some g->∀ v ls x,g v ls=some x->FnT Tryz.prog H ⟨f,v,0⟩ ls x:=fun f g h v ls x hx=>by
 have h:lookN extL f=some g:=h;simp only [extL,lookN] at h;cases h1:Nat.beq 206 f with
 | true =>
  rw [h1] at h;simp only [H1,Option.some.injEq] at h;subst h;obtain rfl:=beqN.1 h1;refine sort_fnT Go.Proofs.Tryz.lays190 rfl (E:=9) (fl:=[]) rfl Tryz.func206 (fun he=>by cases he) (of_decide_eq_false (by kernel_rfl)) (fun i hi=>?_) hx
  obtain ⟨a,b,hm⟩:=kiF_mem (l:=[(0,0,⟨[(0,.hd 0)],[(0,.arr 9 .deep)],[⟨.ret,[],[(0,.arr 9 .deep)]⟩]⟩)]) hi;simp only [List.mem_cons,List.not_mem_nil,or_false,Prod.mk.injEq] at hm;exact hm.2.2
 | false =>
 rw [h1] at h;simp only [H2] at h;cases h1:Nat.beq 207 f with
 | true =>
  rw [h1] at h;simp only [H1,Option.some.injEq] at h;subst h;obtain rfl:=beqN.1 h1;refine comp_fnT Go.Proofs.Tryz.lays194 rfl (E:=9) (fl:=[]) rfl Tryz.func207 (fun he=>by cases he) (of_decide_eq_false (by kernel_rfl)) (fun i hi=>?_) hx
  obtain ⟨a,b,hm⟩:=kiF_mem (l:=[(0,0,⟨[(0,.hd 0)],[(0,.arr 9 .deep)],[⟨.ret,[(0,.hd 16)],[(16,.arr 9 .deep)]⟩]⟩)]) hi;simp only [List.mem_cons,List.not_mem_nil,or_false,Prod.mk.injEq] at hm;exact hm.2.2
 | false =>
 rw [h1] at h;simp only [H2] at h;simp at h
theorem fits:Fits Tryz.prog H where
 ty:=tyOK_of (l:=tyL) (fun _=>rfl) (by kernel_rfl)
 eq:=eqOK_of (l:=eqL) (fun _=>rfl) (by kernel_rfl)
 mixed:=Tryz.checked.mixed
 names:=names_of (by kernel_rfl)
 ext:=ext_ok
end Go.Q.S
end
