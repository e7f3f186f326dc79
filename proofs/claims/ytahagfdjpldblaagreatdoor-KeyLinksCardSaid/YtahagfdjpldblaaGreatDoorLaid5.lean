/-
  From the rows' listed variables, package day's months among them, to what the walks ask of them (Glb5).
-/
import Derived.Test.YtahagfdjpldblaaGreatDoorLaid
import Derived.Test.YtahagfdjpldblaaGreatDoorDay
namespace Go.Proofs.YtahagfdjpldblaaGreatDoor
open Go.ChangeShapes Go.WideShapes Go.ChangeAt Go.RowKit
set_option linter.unusedVariables false
set_option linter.unusedSimpArgs false
noncomputable def laidL5 : List (String × DataW Unit) := [("math/bits.deBruijn32tab", Rows.laid_math_bits_deBruijn32tab), ("math/bits.deBruijn64tab", Rows.laid_math_bits_deBruijn64tab), ("internal/strconv.uint64pow10", Rows.laid_internal_strconv_uint64pow10), ("strconv.ErrRange", Rows.laid_strconv_ErrRange), ("strconv.ErrSyntax", Rows.laid_strconv_ErrSyntax), ("transposal/day.months", Rows.laid_transposal_day_months)]
theorem glb5_of {W : World} (h : laidMetH Tryz.prog laidL5 W) (hs : W.ShapedOpen Tryz.prog) : Glb5 W := by
  have h1 := h.filter (fun x => x.1 != "transposal/day.months")
  have e : laidL5.filter (fun x => x.1 != "transposal/day.months") = laidL := by kernel_rfl
  rw [e] at h1
  refine ⟨glb_of h1 hs, ?_⟩
  have h2 := h.filter (fun x => x.1 == "transposal/day.months")
  have e2 : laidL5.filter (fun x => x.1 == "transposal/day.months") = [("transposal/day.months", Lib.tabData .i64 Dy.months)] := by kernel_rfl
  rw [e2] at h2
  exact Lib.tabIs_of_head (g := 0) (by kernel_rfl) (by kernel_rfl) Tryz.underlying90 Tryz.underlying3 (by kernel_rfl) (by kernel_rfl) h2
theorem door_met5 (os : Os) (args : Array Value) : laidMetH Tryz.prog laidL5 ((wd os).forCall (fun _ _ => 0) ⟨#[], args, []⟩).memory :=
  laidMetH_of_parts3 (fuel := 8) (laidMet_of_run' 8 (by kernel_rfl) (by kernel_rfl)) (by kernel_rfl) (by kernel_rfl)
end Go.Proofs.YtahagfdjpldblaaGreatDoor
