/- For all arguments the law FnExactEqualClaim answers true and leaves its arguments as they were; no condition. -/
import Derived.Test.YtmahppdampmpfaaT24
import Derived.Test.YtmahppdampmpfaaRows
import Derived.WalkKit
import Derived.ProofKit
import Derived.OpenShut
import Derived.ShutString
import Derived.ChangeOld
import Derived.Below
import Derived.SizedLaws
set_option linter.unusedVariables false
namespace Go.RF.S
open Go Go.Proofs Go.RF

theorem plain26 : plainB Try.prog [26, 24, 3, 9] = true := by kernel_rfl
theorem cells26 : Try.prog.cellsOf 26 = 4 := by kernel_rfl

theorem rows_of_shp {fuel : Nat} (ih : ∀ ds, Shp Try.prog fuel 26 ds → ∃ x : Tm, ds = x.ds ∧ x.ok 9223372036854775807) : ∀ es : List (List D), (∀ r ∈ es, Shp Try.prog fuel 26 r) → ∃ xs : List Tm, es = xs.map Tm.ds ∧ Tms.ok 9223372036854775807 xs
  | [], _ => ⟨[], rfl, by rw [Tms.ok]; trivial⟩
  | e :: es, h => by
    obtain ⟨x, h1, h2⟩ := ih e (h e (by simp))
    obtain ⟨xs, h3, h4⟩ := rows_of_shp ih es (fun r hr => h r (by simp [hr]))
    exact ⟨x :: xs, by rw [h1, h3]; rfl, by rw [Tms.ok]; exact ⟨h2, h4⟩⟩

set_option maxRecDepth 100000 in
theorem tm_of_shp : ∀ (fuel : Nat) (ds : List D), Shp Try.prog fuel 26 ds → ∃ x : Tm, ds = x.ds ∧ x.ok 9223372036854775807
  | 0, ds, h => by simp [Shp] at h
  | 1, ds, h => by simp [Shp, Try.underlying26, ShpL] at h
  | fuel + 2, ds, h => by
    have ih := tm_of_shp fuel
    simp only [Shp, Try.underlying26, ShpL, Try.underlying3, Try.underlying9, Try.underlying24, cells26] at h
    obtain ⟨d1, r1, rfl, ⟨k, rfl, _⟩, d2, r2, rfl, ⟨n, rfl, _⟩, d3, r3, rfl, ⟨s, rfl, hs⟩, d4, r4, rfl, ⟨es, rfl, hl, hes⟩, rfl⟩ := h
    obtain ⟨xs, rfl, hok⟩ := rows_of_shp ih es hes
    refine ⟨.mk k n s xs, by rw [Tm.ds_mk]; rfl, ?_⟩
    rw [Tm.ok]
    simp only [List.length_map] at hl
    unfold maxLen at hs hl
    exact ⟨by omega, by omega, hok⟩

theorem agg_of_cells {v : Value} (h : v.cells.size = 4) : v = .agg v.cells := by
  cases v <;> first | rfl | (simp [Value.cells] at h)

theorem agg_of_cells' {v : Value} (h : v.cells.size = 10) : v = .agg v.cells := by
  cases v <;> first | rfl | (simp [Value.cells] at h)
theorem plain38 : plainB Try.prog [38, 35, 26, 36, 24, 124, 3, 9] = true := by kernel_rfl
theorem cells38 : Try.prog.cellsOf 38 = 10 := by kernel_rfl
theorem cells124 : Try.prog.cellsOf 124 = 9 := by kernel_rfl
theorem cells9 : Try.prog.cellsOf 9 = 1 := by kernel_rfl
theorem strs_of_shp {fuel : Nat} : ∀ es : List (List D), (∀ r ∈ es, Shp Try.prog fuel 9 r) → ∃ xs : List ByteArray, es = xs.map dsS ∧ ∀ s ∈ xs, s.size ≤ 9223372036854775807
  | [], _ => ⟨[], rfl, by simp⟩
  | e :: es, h => by
    obtain ⟨xs, h3, h4⟩ := strs_of_shp es (fun r hr => h r (by simp [hr]))
    have h1 := h e (by simp)
    cases fuel with
    | zero => simp [Shp] at h1
    | succ fuel =>
      simp only [Shp, Try.underlying9] at h1
      obtain ⟨s, rfl, hs⟩ := h1
      refine ⟨s :: xs, by rw [h3]; rfl, fun x hx => ?_⟩
      rcases List.mem_cons.1 hx with rfl | hx
      · unfold maxLen at hs; exact hs
      · exact h4 x hx
set_option maxRecDepth 100000 in
theorem gd_of_shp {fuel : Nat} {ds : List D} (h : Shp Try.prog fuel 124 ds) : ∃ g : Gd, ds = g.ds ∧ g.ok 9223372036854775807 := by
  cases fuel with
  | zero => simp [Shp] at h
  | succ fuel =>
    simp only [Shp, Try.underlying124, ShpL] at h
    obtain ⟨d1, r1, rfl, h1, d2, r2, rfl, h2, d3, r3, rfl, h3, rfl⟩ := h
    obtain ⟨l, rfl, hl⟩ := tm_of_shp fuel _ h2
    obtain ⟨r, rfl, hr⟩ := tm_of_shp fuel _ h3
    cases fuel with
    | zero => simp [Shp] at h1
    | succ fuel =>
      simp only [Shp, Try.underlying3] at h1
      obtain ⟨k, rfl, _⟩ := h1
      exact ⟨⟨k, l, r⟩, by simp [Gd.ds], hl, hr⟩
theorem gds_of_shp {fuel : Nat} : ∀ es : List (List D), (∀ r ∈ es, Shp Try.prog fuel 124 r) → ∃ xs : List Gd, es = xs.map Gd.ds ∧ ∀ g ∈ xs, g.ok 9223372036854775807
  | [], _ => ⟨[], rfl, by simp⟩
  | e :: es, h => by
    obtain ⟨xs, h3, h4⟩ := gds_of_shp es (fun r hr => h r (by simp [hr]))
    obtain ⟨g, h1, h2⟩ := gd_of_shp (h e (by simp))
    refine ⟨g :: xs, by rw [h1, h3]; rfl, fun x hx => ?_⟩
    rcases List.mem_cons.1 hx with rfl | hx
    · exact h2
    · exact h4 x hx
set_option maxRecDepth 100000 in
theorem cl_of_shp {fuel : Nat} {ds : List D} (h : Shp Try.prog fuel 38 ds) : ∃ c : Cl, ds = c.ds ∧ c.ok 9223372036854775807 := by
  cases fuel with
  | zero => simp [Shp] at h
  | succ fuel =>
    simp only [Shp, Try.underlying38, ShpL] at h
    obtain ⟨d1, r1, rfl, h1, d2, r2, rfl, h2, d3, r3, rfl, h3, d4, r4, rfl, h4, rfl⟩ := h
    obtain ⟨l, rfl, hl⟩ := tm_of_shp fuel _ h2
    obtain ⟨r, rfl, hr⟩ := tm_of_shp fuel _ h3
    cases fuel with
    | zero => simp [Shp] at h1
    | succ fuel =>
      simp only [Shp, Try.underlying35, cells9] at h1
      simp only [Shp, Try.underlying36, cells124] at h4
      obtain ⟨es, rfl, a1, a2⟩ := h1
      obtain ⟨es', rfl, b1, b2⟩ := h4
      obtain ⟨vs, rfl, a3⟩ := strs_of_shp es a2
      obtain ⟨gs, rfl, b3⟩ := gds_of_shp es' b2
      simp only [List.length_map] at a1 b1
      unfold maxLen at a1 b1
      exact ⟨⟨vs, l, r, gs⟩, by simp [Cl.ds], ⟨a1, a3, hl, hr, b1, b3⟩⟩
/-- What a claim among the arguments is. -/
theorem arg38 {H : Type} {enc : TypeId × Value → H} {W : World} {sp : Nat → Bool} {v : Value} {d : DataW H} {ps : List MemPlace} (h : DataW.Trod enc Try.prog W 0 sp true 38 v d ps) :
    ∃ x : Cl, x.ok 9223372036854775807 ∧ InOK W (vC x) v := by
  obtain ⟨fuel, h⟩ := h
  obtain ⟨ds, B, h1, h2, h3⟩ := shp_of_trod plain38 fuel 38 v.cells.toList _ (by simp) h
  obtain ⟨x, rfl, hx⟩ := cl_of_shp h3
  have hl := RdL.length h1
  have hc : v.cells.size = 10 := by rw [cells38] at h2; simpa [h2] using hl
  refine ⟨x, hx, .inr ⟨x.ds, v.cells.toList, B, rfl, ?_, h1⟩⟩
  have := agg_of_cells' hc
  simpa using this
end Go.RF.S
namespace Go.Proofs.Ytmahppdampmpfaa.fnExactEqualClaim
open Go Go.RF Go.RF.S
open Go.ChangeShapes Go.WideShapes Go.ChangeAt Go.RowKit
open Go.ChangeMaps (open_string shut_string)
theorem own : ownKnob Try.prog.godebug = none := by kernel_rfl
theorem laid : laidOutB Try.prog = true := by kernel_rfl
set_option maxRecDepth 100000 in
theorem lifted (os : Os) (started : os.Started) (H : Type) (enc : TypeId × Value → H) :
    ReturnsInHanded {} Try.checked os 6 .any (Rows.fnExactEqualClaimSpec.pre6 enc Try.prog Try.f6 Rows.fnExactEqualClaimRow.domain false) (Rows.fnExactEqualClaimSpec.post enc Try.prog Try.f6 false true false false) := by
  refine returnsInHanded_of_change_sized (C := Try.checked) own started (by kernel_rfl) Try.func6
    (ChangeSpec.witness6 (enc := enc) (C := Try.checked) false ⟨#[], #[.agg #[.slice none 0 0, .int .i64 0, .int .i64 0, .string ByteArray.empty, .slice none 0 0, .int .i64 0, .int .i64 0, .string ByteArray.empty, .slice none 0 0, .slice none 0 0], .agg #[.slice none 0 0, .int .i64 0, .int .i64 0, .string ByteArray.empty, .slice none 0 0, .int .i64 0, .int .i64 0, .string ByteArray.empty, .slice none 0 0, .slice none 0 0]], []⟩ 8 (by kernel_rfl) (by kernel_rfl) (by kernel_rfl) (by kernel_rfl)) ?_
  intro W base args ds gs before hval0 hW hcnd hsz0 _
  have hval : ∀ (j : Nat) t v, Try.f6.params[j]? = some t → args[j]? = some v → Value.okWide Try.prog W .any base t v := hval0
  have hW' := hW
  obtain ⟨p, q, hA0, hV, rfl, hfz, hnd⟩ := hW
  have hA : DataW.TrodAll enc Try.prog W 0 (fun _ => true) true Try.f6.params.toList args.toList ds p := hA0
  rw [Try.params6] at hA hval
  obtain ⟨v0, v1, d0, d1, p0, p1, rfl, rfl, rfl, h0, h1⟩ := trodAll_two hA
  obtain ⟨rfl, rfl⟩ := trodVars_none hV
  obtain ⟨x, hx, hin⟩ := arg38 h0
  obtain ⟨y, hy, hin'⟩ := arg38 h1
  have hlt : ∀ z ∈ p0, z.block < W.heap.size := fun z hz => hW'.lt z (by simp [hz])
  have hlt' : ∀ z ∈ p1, z.block < W.heap.size := fun z hz => hW'.lt z (by simp [hz])
  refine (PC_bool (w6 x y hx hy) W #[v0, v1] rfl (fun j v hj => ?_)).mono fun e W' ⟨he, bel⟩ => ?_
  · match j, hj with
    | 0, hj =>
      obtain rfl : vC x = v := by simpa using hj
      exact hin
    | 1, hj =>
      obtain rfl : vC y = v := by simpa using hj
      exact hin'
    | j + 2, hj => simp at hj
  · subst he
    exact ⟨_, rfl, _, _, _, [], p0 ++ p1, _, hW', trodAll_mk1 (shut_bool Try.underlying4 _), trodAll_mk2 (Below.trod laid (by kernel_rfl) (of_decide_eq_true (by kernel_rfl)) h0 bel hlt) (Below.trod laid (by kernel_rfl) (of_decide_eq_true (by kernel_rfl)) h1 bel hlt'), rfl, bel.frame _, fun h => by cases h⟩
theorem over : Rows.fnExactEqualClaimRow.holds Try.pinned (OpenSpec.ofChange Rows.fnExactEqualClaimSpec) :=
  OpenClaim.holds_of_wide 6 Try.f6 rfl rfl rfl rfl rfl rfl rfl ⟨rfl, rfl, rfl, rfl, rfl⟩ rfl rfl rfl rfl rfl (by kernel_rfl) Try.func6 (by kernel_rfl)
    (of_decide_eq_true (by kernel_rfl)) (by unfold Func.isWrapper; first | (rw [if_pos (by decide +kernel)]; kernel_rfl) | (rw [if_neg (by decide +kernel)]; exact ⟨rfl, rfl⟩))
    (fun os started H enc _ => lifted os started H enc)
theorem proved : Rows.FnExactEqualClaimSaid := over
end Go.Proofs.Ytmahppdampmpfaa.fnExactEqualClaim
namespace Go.Proofs.Ytmahppdampmpfaa
/-- The row, under a short name, for the claim. -/
theorem fnExactEqualClaim_holds : Rows.FnExactEqualClaimSaid := fnExactEqualClaim.proved
end Go.Proofs.Ytmahppdampmpfaa
