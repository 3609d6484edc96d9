/- The functions of this seat, as that machine runs them. -/
import Derived.Test.YtnjedojmdcpcaaaGreatvP19
set_option linter.unusedVariables false
set_option linter.unusedSimpArgs false
namespace Go.Q.S
open Go Go.Q Go.Proofs
noncomputable def decR (s:SyM):Bool:=symC s.d s.v s.t s.c&&decide ((brL s).length<=1)
theorem r19 (s:SyM) (hs:SyB s):rn ⟨19,0,0⟩ s.row=some (0,[.bool (decR s)]):=by
 have h1:=symI s.d hs.d s.v hs.v hs.vs s.t hs.w hs.n s.c hs.c
 have h2:=r87 s hs
 have e:decide (((brL s).length:Int)<=1)=decide ((brL s).length<=1):=by by_cases q:(brL s).length<=1 <;> simp [q] <;> omega
 unfold decR
 unfold SyM.row at h2 ⊢
 rw [e19_0_0]
 simp only [h1,nv0,nvS,dvI,dvB,dvS,dvL,Option.bind_some]
 cases h:symC s.d s.v s.t s.c with
 | false=>rfl
 | true=>simp only [cond_true,h2 h,nv0,nvS,dvI,dvB,dvS,dvL,Option.bind_some,List.length_map,e,Bool.true_and]
theorem r16 (s:SyM) (hs:SyB s):rn ⟨16,0,0⟩ s.row=some (0,[.bool (decR s)]):=by
 have h1:=symS s.d hs.d s.v hs.v hs.vs s.t hs.w hs.n s.c hs.c
 have h2:=r27 s hs
 have e:decide (((brL s).length:Int)<=1)=decide ((brL s).length<=1):=by by_cases q:(brL s).length<=1 <;> simp [q] <;> omega
 unfold decR
 unfold SyM.row at h2 ⊢
 rw [e16_0_0]
 simp only [h1,nv0,nvS,dvI,dvB,dvS,dvL,Option.bind_some]
 cases h:symC s.d s.v s.t s.c with
 | false=>rfl
 | true=>simp only [cond_true,h2,nv0,nvS,dvI,dvB,dvS,dvL,Option.bind_some,List.length_map,e,Bool.true_and]
end Go.Q.S
