/-
  Layer 1's fixed fact: it answers true.
-/
import Derived.Test.YtahagfdjpldblaaGreatDoorWide
namespace Go.Proofs.YtahagfdjpldblaaGreatDoor
open Go.RowKit
set_option linter.unusedVariables false
set_option linter.unusedSimpArgs false

set_option maxHeartbeats 400000 in
theorem awake1 (w : World) :
    Calls Tryz.prog 58 #[] w fun e w' => e = .returned (.bool true) ∧ Below w.heap.size w w' := by
  have e1 : Wd.hi (-1 * 5) = -1 := by unfold Wd.hi wrap64; rfl
  have e2 : Wd.lo (-1 * 5) = 18446744073709551611 := by unfold Wd.lo; rfl
  have e3 : Wd.hi (-1) = -1 := by unfold Wd.hi wrap64; rfl
  have e4 : Wd.lo (-1) = 18446744073709551615 := by unfold Wd.lo; rfl
  go_enter Tryz.func58, Tryz.ntmps58
  go_wp2_with fail
  refine (mul_any (-1) 5 _ (by unfold Wd.I64; omega) (by unfold Wd.I64; omega)).mono ?_
  rintro e w1 ⟨rfl, hb1⟩
  rw [e1, e2]
  go_wp2_with fail
  refine (of_any (-1) (by unfold Wd.I64; omega) _).mono ?_
  rintro e w2 ⟨rfl, hb2⟩
  rw [e3, e4]
  go_wp2
  go_ret
  exact ⟨rfl, below_then hb1 hb2⟩


end Go.Proofs.YtahagfdjpldblaaGreatDoor
