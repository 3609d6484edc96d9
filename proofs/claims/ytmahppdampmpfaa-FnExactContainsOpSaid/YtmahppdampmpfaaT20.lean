/- For all arguments the law FnExactContainsOp answers true and leaves its arguments as they were; no condition. -/
import Derived.Test.YtmahppdampmpfaaT12
import Derived.Test.YtmahppdampmpfaaRF24
import Derived.Test.YtmahppdampmpfaaRows
import Derived.WalkKit
import Derived.ProofKit
import Derived.OpenShut
import Derived.ShutString
import Derived.ChangeOld
import Derived.Below
import Derived.SizedLaws
set_option linter.unusedVariables false
namespace Go.RF.S
open Go Go.Proofs Go.RF

theorem plain26 : plainB Try.prog [26, 24, 3, 9] = true := by kernel_rfl
theorem cells26 : Try.prog.cellsOf 26 = 4 := by kernel_rfl

theorem rows_of_shp {fuel : Nat} (ih : ∀ ds, Shp Try.prog fuel 26 ds → ∃ x : Tm, ds = x.ds ∧ x.ok 9223372036854775807) : ∀ es : List (List D), (∀ r ∈ es, Shp Try.prog fuel 26 r) → ∃ xs : List Tm, es = xs.map Tm.ds ∧ Tms.ok 9223372036854775807 xs
  | [], _ => ⟨[], rfl, by rw [Tms.ok]; trivial⟩
  | e :: es, h => by
    obtain ⟨x, h1, h2⟩ := ih e (h e (by simp))
    obtain ⟨xs, h3, h4⟩ := rows_of_shp ih es (fun r hr => h r (by simp [hr]))
    exact ⟨x :: xs, by rw [h1, h3]; rfl, by rw [Tms.ok]; exact ⟨h2, h4⟩⟩

set_option maxRecDepth 100000 in
theorem tm_of_shp : ∀ (fuel : Nat) (ds : List D), Shp Try.prog fuel 26 ds → ∃ x : Tm, ds = x.ds ∧ x.ok 9223372036854775807
  | 0, ds, h => by simp [Shp] at h
  | 1, ds, h => by simp [Shp, Try.underlying26, ShpL] at h
  | fuel + 2, ds, h => by
    have ih := tm_of_shp fuel
    simp only [Shp, Try.underlying26, ShpL, Try.underlying3, Try.underlying9, Try.underlying24, cells26] at h
    obtain ⟨d1, r1, rfl, ⟨k, rfl, _⟩, d2, r2, rfl, ⟨n, rfl, _⟩, d3, r3, rfl, ⟨s, rfl, hs⟩, d4, r4, rfl, ⟨es, rfl, hl, hes⟩, rfl⟩ := h
    obtain ⟨xs, rfl, hok⟩ := rows_of_shp ih es hes
    refine ⟨.mk k n s xs, by rw [Tm.ds_mk]; rfl, ?_⟩
    rw [Tm.ok]
    simp only [List.length_map] at hl
    unfold maxLen at hs hl
    exact ⟨by omega, by omega, hok⟩

theorem agg_of_cells {v : Value} (h : v.cells.size = 4) : v = .agg v.cells := by
  cases v <;> first | rfl | (simp [Value.cells] at h)

/-- What a term among the arguments is. -/
theorem arg26 {H : Type} {enc : TypeId × Value → H} {W : World} {sp : Nat → Bool} {v : Value} {d : DataW H} {ps : List MemPlace} (h : DataW.Trod enc Try.prog W 0 sp true 26 v d ps) :
    ∃ x : Tm, x.ok 9223372036854775807 ∧ InOK W (vT x) v := by
  obtain ⟨fuel, h⟩ := h
  obtain ⟨ds, B, h1, h2, h3⟩ := shp_of_trod plain26 fuel 26 v.cells.toList _ (by simp) h
  obtain ⟨x, rfl, hx⟩ := tm_of_shp fuel ds h3
  have hl := RdL.length h1
  have hc : v.cells.size = 4 := by rw [cells26] at h2; simpa [h2] using hl
  refine ⟨x, hx, .inr ⟨x.ds, v.cells.toList, B, rfl, ?_, h1⟩⟩
  have := agg_of_cells hc
  simpa using this
end Go.RF.S
namespace Go.Proofs.Ytmahppdampmpfaa.fnExactContainsOp
open Go Go.RF Go.RF.S
open Go.ChangeShapes Go.WideShapes Go.ChangeAt Go.RowKit
open Go.ChangeMaps (open_string shut_string)
theorem own : ownKnob Try.prog.godebug = none := by kernel_rfl
theorem laid : laidOutB Try.prog = true := by kernel_rfl
set_option maxRecDepth 100000 in
theorem lifted (os : Os) (started : os.Started) (H : Type) (enc : TypeId × Value → H) :
    ReturnsInHanded {} Try.checked os 5 .any (Rows.fnExactContainsOpSpec.pre6 enc Try.prog Try.f5 Rows.fnExactContainsOpRow.domain false) (Rows.fnExactContainsOpSpec.post enc Try.prog Try.f5 false true false false) := by
  refine returnsInHanded_of_change_sized (C := Try.checked) own started (by kernel_rfl) Try.func5
    (ChangeSpec.witness6 (enc := enc) (C := Try.checked) false ⟨#[], #[.agg #[.int .i64 0, .int .i64 0, .string ByteArray.empty, .slice none 0 0], .string ByteArray.empty], []⟩ 8 (by kernel_rfl) (by kernel_rfl) (by kernel_rfl) (by kernel_rfl)) ?_
  intro W base args ds gs before hval0 hW hcnd hsz0 _
  have hval : ∀ (j : Nat) t v, Try.f5.params[j]? = some t → args[j]? = some v → Value.okWide Try.prog W .any base t v := hval0
  have hW' := hW
  obtain ⟨p, q, hA0, hV, rfl, hfz, hnd⟩ := hW
  have hA : DataW.TrodAll enc Try.prog W 0 (fun _ => true) true Try.f5.params.toList args.toList ds p := hA0
  rw [Try.params5] at hA hval
  obtain ⟨v0, v1, d0, d1, p0, p1, rfl, rfl, rfl, h0, h1⟩ := trodAll_two hA
  obtain ⟨rfl, rfl⟩ := trodVars_none hV
  obtain ⟨s, rfl, rfl, rfl, w1⟩ := open_string Try.underlying9 (hval 1 9 v1 rfl rfl) h1
  obtain ⟨x, hx, hin⟩ := arg26 h0
  have hlt : ∀ y ∈ p0, y.block < W.heap.size := fun y hy => hW'.lt y (by simp [hy])
  have hw1 : s.size ≤ 9223372036854775807 := by unfold maxLen at w1; exact w1
  refine (PC_bool (w5 s x hw1 hx) W #[v0, .string s] rfl (fun j v hj => ?_)).mono fun e W' ⟨he, bel⟩ => ?_
  · match j, hj with
    | 0, hj =>
      obtain rfl : vT x = v := by simpa using hj
      exact hin
    | 1, hj =>
      obtain rfl : vS s = v := by simpa using hj
      exact .inl ⟨.raw (.string s), [], rfl, by simp [Rd, Value.oneCell']⟩
    | j + 2, hj => simp at hj
  · subst he
    exact ⟨_, rfl, _, _, _, [], p0 ++ [], _, hW', trodAll_mk1 (shut_bool Try.underlying4 _), trodAll_mk2 (Below.trod laid (by kernel_rfl) (of_decide_eq_true (by kernel_rfl)) h0 bel hlt) (shut_string Try.underlying9 w1), rfl, bel.frame _, fun h => by cases h⟩
theorem over : Rows.fnExactContainsOpRow.holds Try.pinned (OpenSpec.ofChange Rows.fnExactContainsOpSpec) :=
  OpenClaim.holds_of_wide 5 Try.f5 rfl rfl rfl rfl rfl rfl rfl ⟨rfl, rfl, rfl, rfl, rfl⟩ rfl rfl rfl rfl rfl (by kernel_rfl) Try.func5 (by kernel_rfl)
    (of_decide_eq_true (by kernel_rfl)) (by unfold Func.isWrapper; first | (rw [if_pos (by decide +kernel)]; kernel_rfl) | (rw [if_neg (by decide +kernel)]; exact ⟨rfl, rfl⟩))
    (fun os started H enc _ => lifted os started H enc)
theorem proved : Rows.FnExactContainsOpSaid := over
end Go.Proofs.Ytmahppdampmpfaa.fnExactContainsOp
namespace Go.Proofs.Ytmahppdampmpfaa
/-- The row, under a short name, for the claim. -/
theorem fnExactContainsOp_holds : Rows.FnExactContainsOpSaid := fnExactContainsOp.proved
end Go.Proofs.Ytmahppdampmpfaa
