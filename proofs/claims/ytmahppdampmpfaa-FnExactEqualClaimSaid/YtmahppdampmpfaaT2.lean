/- The functions of this seat, walked in that logic. -/
import Derived.Test.YtmahppdampmpfaaT1
set_option linter.unusedVariables false
namespace Go.RF

inductive Tm where
  | mk (k n : Int) (s : ByteArray) (xs : List Tm)
mutual
def Tm.ds : Tm → List D
  | .mk k n s xs => [.raw (.int .i64 k), .raw (.int .i64 n), .raw (.string s), .sl 4 (Tms.ds xs)]
def Tms.ds : List Tm → List (List D)
  | [] => []
  | a :: xs => Tm.ds a :: Tms.ds xs
end
theorem Tms.ds_eq : ∀ xs : List Tm, Tms.ds xs = xs.map Tm.ds
  | [] => rfl
  | a :: xs => by rw [Tms.ds, Tms.ds_eq xs]; rfl
theorem Tm.ds_mk (k n : Int) (s : ByteArray) (xs : List Tm) : (Tm.mk k n s xs).ds = [.raw (.int .i64 k), .raw (.int .i64 n), .raw (.string s), .sl 4 (xs.map Tm.ds)] := by
  rw [Tm.ds, Tms.ds_eq]
/-- A term, xs it stands in a slot. -/
def vT (t : Tm) : V := .agg (t.ds.map dv)
def vTs (ts : List Tm) : V := .one (.v (.sl 4 (ts.map Tm.ds)) false false)

mutual
def sz : Tm → Int → Int
  | .mk k n s xs, l => if l - s.size < 0 then -1 else
    if l - s.size - xs.length < 0 then -1 else if szL xs (l - s.size - xs.length) < 0 then -1 else szL xs (l - s.size - xs.length)
def szL : List Tm → Int → Int
  | [], l => l
  | a :: xs, l => if sz a l < 0 then -1 else szL xs (sz a l)
end
def szS (xs : List Tm) (l : Int) : Int := if l - xs.length < 0 then -1 else szL xs (l - xs.length)
end Go.RF
namespace Go.RF.S
open Go Go.Proofs Go.RF
attribute [go_sem] ty3 ty4 ty9 ty24 ty29 ty26 ty31 se24 se29 fo26_0 fo26_1 fo26_2 fo26_3 fo31_0 fo31_1 fo31_2 fo31_3

attribute [go_sem] stOp stMove stLoad stField stIndex stBin stEqb stBin2 bv stNot stPick stLen stCall stBuild acq opd look put acqB part clrS clrB drR V.dr AV.dr dr Hn.tk Hn.w cV cC forget delAll badKeys del V.acs AV.acs
attribute [go_sem] List.any_cons List.any_nil List.map_cons List.map_nil rb spl efOp efBox efAlloc efStore efStore2 efStore3 wdBox acqA acqRs acqR avOf
theorem dv_raw (v : Value) : dv (.raw v) = .v (.raw v) false true := rfl
theorem dv_sl (w : Nat) (es : List (List D)) : dv (.sl w es) = .v (.sl w es) false false := rfl
theorem dv_ptr (ds : List D) : dv (.ptr ds) = .v (.ptr ds) false false := rfl
theorem dv_fn (f : FuncId) (ds : List D) : dv (.fn f ds) = .v (.fn f ds) false false := rfl
theorem isBp_v (j : Nat) (d : D) (c o : Bool) : isBp j (.v d c o) = false := rfl
theorem isBp_bp (j k off : Nat) : isBp j (.bp k off) = (k == j) := rfl
theorem isBp_bs (j k n : Nat) : isBp j (.bs k n) = (k == j) := rfl
attribute [go_sem] isBp_v isBp_bp isBp_bs isBp_dv any_dv
@[go_sem] theorem dOf_v (d : D) (c o : Bool) : dOf (.v d c o) = some d := rfl
@[go_sem] theorem dOf_dv_some (d : D) : (dOf (dv d)).isSome = true := by cases d <;> rfl
attribute [go_sem] dv_raw dv_sl dv_ptr dv_fn
def Hz : Hn := { mv := [], wd := [] }
attribute [go_sem] Hz
theorem und9 : Try.prog.underlying 9 = some .string := by kernel_rfl

theorem sz_mk (k n : Int) (s : ByteArray) (xs : List Tm) (l : Int) : sz (.mk k n s xs) l = if l - s.size < 0 then -1 else if szS xs (l - s.size) < 0 then -1 else szS xs (l - s.size) := by
  rw [sz, szS]
  split
  · rfl
  · split
    · rfl
    · rfl
attribute [go_sem] wantR_one wantR_nil wantR_cons AC.cap AC.ow
@[go_sem] theorem wantR_T (t : Tm) : wantR (.agg (t.ds.map dv)) = false := by cases t; rw [Tm.ds_mk]; rfl
@[go_sem] theorem Tm.ds_take' (t : Tm) : (t.ds.map dv).take 4 = t.ds.map dv := by cases t; rw [Tm.ds_mk]; rfl
@[go_sem] theorem Tm.ds_take (t : Tm) : t.ds.take 4 = t.ds := by cases t; rw [Tm.ds_mk]; rfl
@[go_sem] theorem Tm.ds_len (t : Tm) : t.ds.length = 4 := by cases t; rw [Tm.ds_mk]; rfl
@[go_sem] theorem map_dr_dv (l : List D) : (l.map dv).map dr = l.map dv := by
  rw [List.map_map]; congr 1; funext d; exact dv_dr d
@[go_sem] theorem map_dr_dv' (l : List D) : l.map (dr ∘ dv) = l.map dv := by
  congr 1; funext d; exact dv_dr d
@[go_sem] theorem ACsle_refl (l : List AC) : ACsle l l = True := eq_true (ACsle.refl l)
mutual
theorem sz_le : ∀ (x : Tm) (l : Int), 0 ≤ l → sz x l ≤ l
  | .mk k n s xs, l, h => by
    rw [sz]
    have := szL_le xs
    split
    · omega
    · split
      · omega
      · split
        · omega
        · have := this (l - s.size - xs.length) (by omega); omega
theorem szL_le : ∀ (xs : List Tm) (l : Int), 0 ≤ l → szL xs l ≤ l
  | [], l, h => by rw [szL]; omega
  | x :: xs, l, h => by
    rw [szL]
    have h1 := sz_le x l h
    split
    · omega
    · have := szL_le xs (sz x l) (by omega); omega
end
end Go.RF.S
