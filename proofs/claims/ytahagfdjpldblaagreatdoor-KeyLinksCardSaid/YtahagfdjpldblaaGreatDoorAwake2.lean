/-
  Layer 2's fixed fact: it answers true.
-/
import Derived.Test.YtahagfdjpldblaaGreatDoorMoneyP
import Derived.Test.YtahagfdjpldblaaGreatDoorAwake1
namespace Go.Proofs.YtahagfdjpldblaaGreatDoor
open Go.RowKit
set_option linter.unusedVariables false
set_option linter.unusedSimpArgs false

theorem text_m5 : Mn.text (-5) = [45, 48, 46, 48, 53] := by decide +kernel
theorem parse_m5 : Mn.parse [45, 48, 46, 48, 53] = some (-5) := by rw [← text_m5]; exact Mn.parse_text (-5) (by omega)

set_option maxHeartbeats 400000 in
theorem awake2 (w : World) (hG : Glb w) :
    Calls Tryz.prog 44 #[] w fun e w' => e = .returned (.bool true) ∧ Below w.heap.size w w' := by
  have hp := Lib.hid (fun w hG => parse_any ⟨#[45, 48, 46, 48, 53]⟩ (by decide) w hG)
  rw [show ((⟨#[45, 48, 46, 48, 53]⟩ : ByteArray).data.toList) = [45, 48, 46, 48, 53] from rfl, parse_m5] at hp
  have ht := Lib.hid (text_any (-5) (by unfold Wd.I64; omega))
  rw [text_m5] at ht
  go_enter Tryz.func44, Tryz.ntmps44
  go_wp2_with fail
  refine (hp.out _ hG).mono ?_
  rintro _ w1 ⟨rfl, hb1⟩
  unfold Mn.end_
  go_wp2_with fail
  refine (ht.out _ (hG.below hb1)).mono ?_
  rintro _ w2 ⟨rfl, hb2⟩
  have hB2 := below_then hb1 hb2
  go_wp2_with fail
  refine (awake1 _).mono ?_
  rintro _ w3 ⟨rfl, hb3⟩
  go_wp2
  go_ret
  exact ⟨rfl, below_then hB2 hb3⟩
end Go.Proofs.YtahagfdjpldblaaGreatDoor
