/- The functions of this seat, as that machine runs them. -/
import Derived.Test.YtboolhhmagjadaaQD
import Derived.Test.YtboolhhmagjadaabX
import Derived.Test.YtboolhhmagjadaaChecked
set_option linter.unusedVariables false
namespace Go.Proofs
open Go.Shelf
def Try.lays190_ren : Go.Shelf.Ren := ⟨fun | 190 => 169 | 125 => 184 | 258 => 183 | 128 => 196 | 129 => 197 | 302 => 187 | 303 => 188 | 304 => 189 | 305 => 190 | 306 => 191 | 307 => 192 | 308 => 193 | 309 => 194 | 310 => 195 | 333 => 198 | 329 => 199 | 330 => 200 | 334 => 201 | 335 => 202 | 336 => 203 | 344 => 204 | n => n, fun | 31 => 30 | 9 => 9 | 3 => 3 | 46 => 198 | 0 => 0 | 51 => 216 | 53 => 218 | 4 => 4 | 183 => 208 | 182 => 207 | 131 => 213 | 5 => 5 | 218 => 219 | 222 => 223 | 228 => 225 | 229 => 24 | n => n, fun | n => n⟩
theorem Try.lays190 : Go.Proofs.Lays.n190 Try.prog Try.lays190_ren := {
  mixed := by kernel_rfl
  f125 := Try.func184.trans (congrArg some (by kernel_rfl))
  f128 := Try.func196.trans (congrArg some (by kernel_rfl))
  f129 := Try.func197.trans (congrArg some (by kernel_rfl))
  f190 := Try.func169.trans (congrArg some (by kernel_rfl))
  f258 := Try.func183.trans (congrArg some (by kernel_rfl))
  f302 := Try.func187.trans (congrArg some (by kernel_rfl))
  f303 := Try.func188.trans (congrArg some (by kernel_rfl))
  f304 := Try.func189.trans (congrArg some (by kernel_rfl))
  f305 := Try.func190.trans (congrArg some (by kernel_rfl))
  f306 := Try.func191.trans (congrArg some (by kernel_rfl))
  f307 := Try.func192.trans (congrArg some (by kernel_rfl))
  f308 := Try.func193.trans (congrArg some (by kernel_rfl))
  f309 := Try.func194.trans (congrArg some (by kernel_rfl))
  f310 := Try.func195.trans (congrArg some (by kernel_rfl))
  f329 := Try.func199.trans (congrArg some (by kernel_rfl))
  f330 := Try.func200.trans (congrArg some (by kernel_rfl))
  f333 := Try.func198.trans (congrArg some (by kernel_rfl))
  f334 := Try.func201.trans (congrArg some (by kernel_rfl))
  f335 := Try.func202.trans (congrArg some (by kernel_rfl))
  f336 := Try.func203.trans (congrArg some (by kernel_rfl))
  f344 := Try.func204.trans (congrArg some (by kernel_rfl))
  t0 := Try.underlying0
  a0 := Try.isAgg0
  z0 := Try.sizeOf0
  v0 := Try.zeroValue0
  t3 := Try.underlying3
  a3 := Try.isAgg3
  z3 := Try.sizeOf3
  v3 := Try.zeroValue3
  t4 := Try.underlying4
  a4 := Try.isAgg4
  z4 := Try.sizeOf4
  v4 := Try.zeroValue4
  t5 := Try.underlying5
  a5 := Try.isAgg5
  z5 := Try.sizeOf5
  v5 := Try.zeroValue5
  t9 := Try.underlying9
  a9 := Try.isAgg9
  z9 := Try.sizeOf9
  v9 := Try.zeroValue9
  t31 := Try.underlying30
  a31 := Try.isAgg30
  z31 := Try.sizeOf30
  v31 := Try.zeroValue30
  t46 := Try.underlying198
  a46 := Try.isAgg198
  z46 := Try.sizeOf198
  v46 := Try.zeroValue198
  t51 := Try.underlying216
  a51 := Try.isAgg216
  z51 := Try.sizeOf216
  v51 := Try.zeroValue216
  t53 := Try.underlying218
  a53 := Try.isAgg218
  z53 := Try.sizeOf218
  v53 := Try.zeroValue218
  t131 := Try.underlying213
  a131 := Try.isAgg213
  z131 := Try.sizeOf213
  v131 := Try.zeroValue213
  t182 := Try.underlying207
  a182 := Try.isAgg207
  z182 := Try.sizeOf207
  v182 := Try.zeroValue207
  t183 := Try.underlying208
  a183 := Try.isAgg208
  z183 := Try.sizeOf208
  v183 := Try.zeroValue208
  t218 := Try.underlying219
  a218 := Try.isAgg219
  z218 := Try.sizeOf219
  v218 := Try.zeroValue219
  t222 := Try.underlying223
  a222 := Try.isAgg223
  z222 := Try.sizeOf223
  v222 := Try.zeroValue223
  t228 := Try.underlying225
  a228 := Try.isAgg225
  z228 := Try.sizeOf225
  v228 := Try.zeroValue225
  t229 := Try.underlying24
  a229 := Try.isAgg24
  z229 := Try.sizeOf24
  v229 := Try.zeroValue24 }
def Try.lays194_ren : Go.Shelf.Ren := ⟨fun | 194 => 170 | n => n, fun | 31 => 30 | 9 => 9 | 3 => 3 | 4 => 4 | 0 => 0 | n => n, fun | n => n⟩
theorem Try.lays194 : Go.Proofs.Lays.n194 Try.prog Try.lays194_ren := {
  mixed := by kernel_rfl
  f194 := Try.func170.trans (congrArg some (by kernel_rfl))
  t0 := Try.underlying0
  a0 := Try.isAgg0
  z0 := Try.sizeOf0
  v0 := Try.zeroValue0
  t3 := Try.underlying3
  a3 := Try.isAgg3
  z3 := Try.sizeOf3
  v3 := Try.zeroValue3
  t4 := Try.underlying4
  a4 := Try.isAgg4
  z4 := Try.sizeOf4
  v4 := Try.zeroValue4
  t9 := Try.underlying9
  a9 := Try.isAgg9
  z9 := Try.sizeOf9
  v9 := Try.zeroValue9
  t31 := Try.underlying30
  a31 := Try.isAgg30
  z31 := Try.sizeOf30
  v31 := Try.zeroValue30 }
end Go.Proofs
namespace Go.Q.S
open Go Go.Q Go.Proofs
theorem kiF_mem : ∀ {l : List (Nat × Nat × KI)} {v n : Nat} {i : KI}, kiF l v n = some i → ∃ a b, (a, b, i) ∈ l
  | [], v, n, i, h => by simp [kiF] at h
  | (a, b, x) :: r, v, n, i, h => by
    unfold kiF at h
    cases hb : Nat.beq a v && Nat.beq b n with
    | true => rw [hb] at h; simp only [cond_true, Option.some.injEq] at h; exact ⟨a, b, by rw [h]; exact List.mem_cons_self ..⟩
    | false =>
      rw [hb] at h
      obtain ⟨a', b', h'⟩ := kiF_mem h
      exact ⟨a', b', List.mem_cons_of_mem _ h'⟩
theorem ext_ok : ∀ f g, H.ext f = some g → ∀ v ls x, g v ls = some x → FnT Try.prog H ⟨f, v, 0⟩ ls x := fun f g h v ls x hx => by
  have h : lookN extL f = some g := h
  simp only [extL, lookN] at h
  cases h1 : Nat.beq 169 f with
  | true =>
    rw [h1] at h
    simp only [cond_true, Option.some.injEq] at h
    subst h
    obtain rfl := beqN.1 h1
    refine sort_fnT Go.Proofs.Try.lays190 rfl (E := 9) (fl := []) rfl Try.func169 (fun he => by cases he) (of_decide_eq_false (by kernel_rfl)) (fun i hi => ?_) hx
    obtain ⟨a, b, hm⟩ := kiF_mem (l := [(0, 0, ⟨[(0, .hd 0)], [(0, .arr 9 .deep)], [⟨.ret, [], [(0, .arr 9 .deep)]⟩]⟩)]) hi
    simp only [List.mem_cons, List.not_mem_nil, or_false, Prod.mk.injEq] at hm
    exact hm.2.2
  | false =>
  rw [h1] at h
  simp only [cond_false] at h
  cases h1 : Nat.beq 170 f with
  | true =>
    rw [h1] at h
    simp only [cond_true, Option.some.injEq] at h
    subst h
    obtain rfl := beqN.1 h1
    refine comp_fnT Go.Proofs.Try.lays194 rfl (E := 9) (fl := []) rfl Try.func170 (fun he => by cases he) (of_decide_eq_false (by kernel_rfl)) (fun i hi => ?_) hx
    obtain ⟨a, b, hm⟩ := kiF_mem (l := [(0, 0, ⟨[(0, .hd 0)], [(0, .arr 9 .deep)], [⟨.ret, [(0, .hd 16)], [(16, .arr 9 .deep)]⟩]⟩)]) hi
    simp only [List.mem_cons, List.not_mem_nil, or_false, Prod.mk.injEq] at hm
    exact hm.2.2
  | false =>
  rw [h1] at h
  simp only [cond_false] at h
  simp at h
theorem fits : Fits Try.prog H where
  ty := tyOK_of (l := tyL) (fun _ => rfl) (by kernel_rfl)
  eq := eqOK_of (l := eqL) (fun _ => rfl) (by kernel_rfl)
  mixed := Try.checked.mixed
  names := names_of (by kernel_rfl)
  ext := ext_ok
end Go.Q.S
