/-
  From the rows' listed variables, package utf8's tables among them, to what the walks ask of them.
-/
import Derived.Test.YtpgjmhhdhngdcaaDoorLaid
import Derived.Lay
import Derived.MakeChecks
namespace Go.Proofs.YtpgjmhhdhngdcaaDoor
open Go.ChangeShapes Go.WideShapes Go.ChangeAt Go.RowKit
set_option linter.unusedVariables false
set_option linter.unusedSimpArgs false
noncomputable def laidL2 : List (String × DataW Unit) := [("math/bits.deBruijn32tab", Rows.laid_math_bits_deBruijn32tab), ("math/bits.deBruijn64tab", Rows.laid_math_bits_deBruijn64tab), ("internal/strconv.uint64pow10", Rows.laid_internal_strconv_uint64pow10), ("unicode/utf8.acceptRanges", Rows.laid_unicode_utf8_acceptRanges), ("strconv.ErrRange", Rows.laid_strconv_ErrRange), ("strconv.ErrSyntax", Rows.laid_strconv_ErrSyntax), ("unicode/utf8.first", Rows.laid_unicode_utf8_first)]
theorem glb2_of {W : World} (h : laidMetH Tryd.prog laidL2 W) (hs : W.ShapedOpen Tryd.prog) : Glb W := by
  have h1 := h.filter (fun x => x.1 != "unicode/utf8.acceptRanges" && x.1 != "unicode/utf8.first")
  have e : laidL2.filter (fun x => x.1 != "unicode/utf8.acceptRanges" && x.1 != "unicode/utf8.first") = laidL := by kernel_rfl
  rw [e] at h1
  exact glb_of h1 hs
/-- the world with these variables laid -/
noncomputable def wd2 (os : Os) : World := World.laidAll Tryd.prog os laidL2
theorem door_met2 (os : Os) (args : Array Value) : laidMetH Tryd.prog laidL2 ((wd2 os).forCall (fun _ _ => 0) ⟨#[], args, []⟩).memory := by
  rw [MakeChecks.laidMetH_plain _ _ _ (by kernel_rfl)]
  exact laidMet_laidAll _ (by kernel_rfl) (by kernel_rfl)
theorem door_vars2 (os : Os) (args : Array Value) : ((wd2 os).forCall (fun _ _ => 0) ⟨#[], args, []⟩).variablesRefB Tryd.prog = true := by kernel_rfl
theorem door_heap2 (os : Os) (args : Array Value) : (((wd2 os).forCall (fun _ _ => 0) ⟨#[], args, []⟩).heap.toList.drop Tryd.prog.globals.size).take ((begin Tryd.prog (fun _ _ => 0) default).world.heap.size - Tryd.prog.globals.size) =
      (begin Tryd.prog (fun _ _ => 0) default).world.heap.toList.drop Tryd.prog.globals.size := by kernel_rfl
end Go.Proofs.YtpgjmhhdhngdcaaDoor
