/- The functions of this seat, as that machine runs them. -/
import Derived.Test.YthlngiieofkmiaaGreatQD
import Derived.Test.YthlngiieofkmiaaGreatqX2
import Derived.Test.YthlngiieofkmiaaGreatChecked
set_option linter.unusedVariables false
namespace Go.Proofs
open Go.Shelf
def Tryz.lays190_ren : Go.Shelf.Ren := ⟨fun | 190 => 271 | 125 => 291 | 258 => 290 | 128 => 305 | 129 => 306 | 302 => 296 | 303 => 297 | 304 => 298 | 305 => 299 | 306 => 300 | 307 => 301 | 308 => 302 | 309 => 303 | 310 => 304 | 333 => 307 | 329 => 308 | 330 => 309 | 334 => 310 | 335 => 311 | 336 => 312 | 344 => 313 | n => n,fun | 31 => 22 | 9 => 9 | 3 => 3 | 46 => 286 | 0 => 0 | 51 => 299 | 53 => 301 | 4 => 4 | 183 => 292 | 182 => 291 | 131 => 96 | 5 => 5 | 218 => 302 | 222 => 306 | 228 => 308 | 229 => 309 | n => n,fun | n => n⟩
theorem Tryz.lays190 : Go.Proofs.Lays.n190 Tryz.prog Tryz.lays190_ren := {
 mixed := by kernel_rfl
 f125 := Tryz.func291.trans (congrArg some (by kernel_rfl))
 f128 := Tryz.func305.trans (congrArg some (by kernel_rfl))
 f129 := Tryz.func306.trans (congrArg some (by kernel_rfl))
 f190 := Tryz.func271.trans (congrArg some (by kernel_rfl))
 f258 := Tryz.func290.trans (congrArg some (by kernel_rfl))
 f302 := Tryz.func296.trans (congrArg some (by kernel_rfl))
 f303 := Tryz.func297.trans (congrArg some (by kernel_rfl))
 f304 := Tryz.func298.trans (congrArg some (by kernel_rfl))
 f305 := Tryz.func299.trans (congrArg some (by kernel_rfl))
 f306 := Tryz.func300.trans (congrArg some (by kernel_rfl))
 f307 := Tryz.func301.trans (congrArg some (by kernel_rfl))
 f308 := Tryz.func302.trans (congrArg some (by kernel_rfl))
 f309 := Tryz.func303.trans (congrArg some (by kernel_rfl))
 f310 := Tryz.func304.trans (congrArg some (by kernel_rfl))
 f329 := Tryz.func308.trans (congrArg some (by kernel_rfl))
 f330 := Tryz.func309.trans (congrArg some (by kernel_rfl))
 f333 := Tryz.func307.trans (congrArg some (by kernel_rfl))
 f334 := Tryz.func310.trans (congrArg some (by kernel_rfl))
 f335 := Tryz.func311.trans (congrArg some (by kernel_rfl))
 f336 := Tryz.func312.trans (congrArg some (by kernel_rfl))
 f344 := Tryz.func313.trans (congrArg some (by kernel_rfl))
 t0 := Tryz.underlying0
 a0 := Tryz.isAgg0
 z0 := Tryz.sizeOf0
 v0 := Tryz.zeroValue0
 t3 := Tryz.underlying3
 a3 := Tryz.isAgg3
 z3 := Tryz.sizeOf3
 v3 := Tryz.zeroValue3
 t4 := Tryz.underlying4
 a4 := Tryz.isAgg4
 z4 := Tryz.sizeOf4
 v4 := Tryz.zeroValue4
 t5 := Tryz.underlying5
 a5 := Tryz.isAgg5
 z5 := Tryz.sizeOf5
 v5 := Tryz.zeroValue5
 t9 := Tryz.underlying9
 a9 := Tryz.isAgg9
 z9 := Tryz.sizeOf9
 v9 := Tryz.zeroValue9
 t31 := Tryz.underlying22
 a31 := Tryz.isAgg22
 z31 := Tryz.sizeOf22
 v31 := Tryz.zeroValue22
 t46 := Tryz.underlying286
 a46 := Tryz.isAgg286
 z46 := Tryz.sizeOf286
 v46 := Tryz.zeroValue286
 t51 := Tryz.underlying299
 a51 := Tryz.isAgg299
 z51 := Tryz.sizeOf299
 v51 := Tryz.zeroValue299
 t53 := Tryz.underlying301
 a53 := Tryz.isAgg301
 z53 := Tryz.sizeOf301
 v53 := Tryz.zeroValue301
 t131 := Tryz.underlying96
 a131 := Tryz.isAgg96
 z131 := Tryz.sizeOf96
 v131 := Tryz.zeroValue96
 t182 := Tryz.underlying291
 a182 := Tryz.isAgg291
 z182 := Tryz.sizeOf291
 v182 := Tryz.zeroValue291
 t183 := Tryz.underlying292
 a183 := Tryz.isAgg292
 z183 := Tryz.sizeOf292
 v183 := Tryz.zeroValue292
 t218 := Tryz.underlying302
 a218 := Tryz.isAgg302
 z218 := Tryz.sizeOf302
 v218 := Tryz.zeroValue302
 t222 := Tryz.underlying306
 a222 := Tryz.isAgg306
 z222 := Tryz.sizeOf306
 v222 := Tryz.zeroValue306
 t228 := Tryz.underlying308
 a228 := Tryz.isAgg308
 z228 := Tryz.sizeOf308
 v228 := Tryz.zeroValue308
 t229 := Tryz.underlying309
 a229 := Tryz.isAgg309
 z229 := Tryz.sizeOf309
 v229 := Tryz.zeroValue309 }
def Tryz.lays194_ren : Go.Shelf.Ren := ⟨fun | 194 => 272 | n => n,fun | 31 => 22 | 9 => 9 | 3 => 3 | 4 => 4 | 0 => 0 | n => n,fun | n => n⟩
theorem Tryz.lays194 : Go.Proofs.Lays.n194 Tryz.prog Tryz.lays194_ren := {
 mixed := by kernel_rfl
 f194 := Tryz.func272.trans (congrArg some (by kernel_rfl))
 t0 := Tryz.underlying0
 a0 := Tryz.isAgg0
 z0 := Tryz.sizeOf0
 v0 := Tryz.zeroValue0
 t3 := Tryz.underlying3
 a3 := Tryz.isAgg3
 z3 := Tryz.sizeOf3
 v3 := Tryz.zeroValue3
 t4 := Tryz.underlying4
 a4 := Tryz.isAgg4
 z4 := Tryz.sizeOf4
 v4 := Tryz.zeroValue4
 t9 := Tryz.underlying9
 a9 := Tryz.isAgg9
 z9 := Tryz.sizeOf9
 v9 := Tryz.zeroValue9
 t31 := Tryz.underlying22
 a31 := Tryz.isAgg22
 z31 := Tryz.sizeOf22
 v31 := Tryz.zeroValue22 }
end Go.Proofs
namespace Go.Q.S
open Go Go.Q Go.Proofs
theorem kiF_mem : ∀ {l : List (Nat × Nat × KI)} {v n : Nat} {i : KI},kiF l v n = some i -> ∃ a b,(a,b,i) ∈ l
 | [],v,n,i,h => by simp [kiF] at h
 | (a,b,x) :: r,v,n,i,h => by
  unfold kiF at h
  cases hb : Nat.beq a v && Nat.beq b n with
  | true => rw [hb] at h; simp only [cond_true,Option.some.injEq] at h; exact ⟨a,b,by rw [h]; exact List.mem_cons_self ..⟩
  | false =>
   rw [hb] at h
   obtain ⟨a',b',h'⟩ := kiF_mem h
   exact ⟨a',b',List.mem_cons_of_mem _ h'⟩
theorem ext_ok : ∀ f g,H.ext f = some g -> ∀ v ls x,g v ls = some x -> FnT Tryz.prog H ⟨f,v,0⟩ ls x := fun f g h v ls x hx => by
 have h : lookN extL f = some g := h
 simp only [extL,lookN] at h
 cases h1 : Nat.beq 271 f with
 | true =>
  rw [h1] at h
  simp only [cond_true,Option.some.injEq] at h
  subst h
  obtain rfl := beqN.1 h1
  refine sort_fnT Go.Proofs.Tryz.lays190 rfl (E := 9) (fl := []) rfl Tryz.func271 (fun he => by cases he) (of_decide_eq_false (by kernel_rfl)) (fun i hi => ?_) hx
  obtain ⟨a,b,hm⟩ := kiF_mem (l := [(0,0,⟨[(0,.hd 0)],[(0,.arr 9 .deep)],[⟨.ret,[],[(0,.arr 9 .deep)]⟩]⟩)]) hi
  simp only [List.mem_cons,List.not_mem_nil,or_false,Prod.mk.injEq] at hm
  exact hm.2.2
 | false =>
 rw [h1] at h
 simp only [cond_false] at h
 cases h1 : Nat.beq 272 f with
 | true =>
  rw [h1] at h
  simp only [cond_true,Option.some.injEq] at h
  subst h
  obtain rfl := beqN.1 h1
  refine comp_fnT Go.Proofs.Tryz.lays194 rfl (E := 9) (fl := []) rfl Tryz.func272 (fun he => by cases he) (of_decide_eq_false (by kernel_rfl)) (fun i hi => ?_) hx
  obtain ⟨a,b,hm⟩ := kiF_mem (l := [(0,0,⟨[(0,.hd 0)],[(0,.arr 9 .deep)],[⟨.ret,[(0,.hd 16)],[(16,.arr 9 .deep)]⟩]⟩)]) hi
  simp only [List.mem_cons,List.not_mem_nil,or_false,Prod.mk.injEq] at hm
  exact hm.2.2
 | false =>
 rw [h1] at h
 simp only [cond_false] at h
 simp at h
theorem fits : Fits Tryz.prog H where
 ty := tyOK_of (l := tyL) (fun _ => rfl) (by kernel_rfl)
 eq := eqOK_of (l := eqL) (fun _ => rfl) (by kernel_rfl)
 mixed := Tryz.checked.mixed
 names := names_of (by kernel_rfl)
 ext := ext_ok
end Go.Q.S
