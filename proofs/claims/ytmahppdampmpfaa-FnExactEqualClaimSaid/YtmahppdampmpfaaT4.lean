/- The functions of this seat, walked in that logic. -/
import Derived.Test.YtmahppdampmpfaaT3
set_option linter.unusedVariables false
namespace Go.RF
def z4 : List AC := [.v (.raw (.int .i64 0)) false true, .v (.raw (.int .i64 0)) false true, .v (.raw (.string ByteArray.empty)) false true, .v (.sl 4 []) true true]
/-- A row of terms that is being filled. -/
def mkT (xs : List Tm) (i : Nat) : List AC := (xs.take i).flatMap (fun x => x.ds.map dv) ++ (List.replicate (xs.length - i) z4).flatten
theorem Tm.ds_len' (t : Tm) : t.ds.length = 4 := by cases t; rw [Tm.ds_mk]; rfl
theorem mkT_zero (xs : List Tm) : mkT xs 0 = (List.replicate xs.length z4).flatten := by simp [mkT]
theorem flat_len (ys : List Tm) : (ys.flatMap (fun x => x.ds.map dv)).length = ys.length * 4 := by
  induction ys with
  | nil => rfl
  | cons y ys ih => rw [List.flatMap_cons, List.length_append, ih, List.length_map, Tm.ds_len', List.length_cons]; omega
theorem rep_len (n : Nat) : ((List.replicate n z4).flatten).length = n * 4 := by
  rw [List.length_flatten]; simp [z4]
theorem mkT_len (xs : List Tm) (i : Nat) (h : i ≤ xs.length) : (mkT xs i).length = xs.length * 4 := by
  rw [mkT, List.length_append, flat_len, rep_len, List.length_take]
  have : min i xs.length = i := by omega
  rw [this]; omega
theorem mkT_spl (xs : List Tm) (i : Nat) (h : i < xs.length) : spl (i * 4) (xs[i].ds.map dv) (mkT xs i) = mkT xs (i + 1) := by
  have e1 : ((xs.take i).flatMap (fun x => x.ds.map dv)).length = i * 4 := by rw [flat_len, List.length_take]; congr 1; omega
  have e2 : xs.length - i = (xs.length - (i + 1)) + 1 := by omega
  have e3 : mkT xs i = (xs.take i).flatMap (fun x => x.ds.map dv) ++ (z4 ++ (List.replicate (xs.length - (i + 1)) z4).flatten) := by
    rw [mkT, e2, List.replicate_succ, List.flatten_cons]
  rw [e3, ← e1, spl_app _ _ _ _ (by rw [List.length_map, Tm.ds_len']; rfl), mkT, List.take_succ_eq_append_getElem h, List.flatMap_append]
  simp
theorem dsOf_mkT (xs : List Tm) : dsOf (mkT xs xs.length) = some (xs.flatMap Tm.ds) := by
  have : mkT xs xs.length = xs.flatMap (fun x => x.ds.map dv) := by simp [mkT]
  rw [this]
  induction xs with
  | nil => rfl
  | cons x xs ih =>
    rw [List.flatMap_cons, List.flatMap_cons]
    exact dsOf_append _ _ _ _ (dsOf_dv _) (ih (by simp [mkT]))
theorem chunk_T : ∀ xs : List Tm, chunk 4 xs.length (xs.flatMap Tm.ds) = xs.map Tm.ds
  | [] => rfl
  | x :: xs => by
    have h := Tm.ds_len' x
    rw [List.flatMap_cons, List.length_cons, chunk, List.map_cons, List.take_left' h, List.drop_left' h, chunk_T xs]
end Go.RF
