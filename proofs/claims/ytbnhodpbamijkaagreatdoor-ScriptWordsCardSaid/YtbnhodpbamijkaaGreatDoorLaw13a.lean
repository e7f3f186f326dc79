import Derived.Test.YtbnhodpbamijkaaGreatDoorMrg28
import Derived.Deep.QuietTactic
import Derived.BigQuiet
namespace Go.Proofs.YtbnhodpbamijkaaGreatDoor
open Go.RowKit
set_option linter.unusedVariables false
set_option linter.unusedSimpArgs false

set_option maxHeartbeats 2000000 in
set_option maxRecDepth 100000 in
theorem words_0 (w : World) (hM : Glb13 w) :
    Calls Tryz.prog 7 #[.int .i64 0] w fun e w' => e = .returned (.bool true) ∧ Below w.heap.size w w' := by
  have HA := Lib.hid (awake13 w hM)
  have HW : Hid (∀ W, Glb13 W → Calls Tryz.prog 17 #[.int .i64 0] W fun e w' => e = .returned (.string ⟨#[114, 101, 110, 117, 109, 98, 101, 114]⟩) ∧ w' = W) := Lib.hid fun W hW => word_any 0 (by omega) W hW
  have HL : Hid (∀ W, Glb13 W → Calls Tryz.prog 18 #[.int .i64 0] W fun e w' => e = .returned (.string ⟨#[116, 111]⟩) ∧ w' = W) := Lib.hid fun W hW => link_any 0 (by omega) W hW
  have HU : Hid (∀ W, Calls Tryz.prog 19 #[.int .i64 0] W fun e w' => e = .returned (.bool false) ∧ w' = W) := Lib.hid fun W => unit_kind 0 W
  have HM := Lib.hid hM
  clear hM
  go_enter Tryz.func7, Tryz.ntmps7
  go_wp2_with fail
  refine HA.out.mono ?_
  rintro _ w1 ⟨rfl, hb⟩
  have HB := Lib.hid hb
  clear hb
  go_wp2_with fail
  have HB2 := Lib.hid (below_alloc (below_alloc HB.out (.cells #[.string ⟨#[114, 101, 110, 117, 109, 98, 101, 114]⟩, .string ⟨#[114, 101, 110, 97, 109, 101]⟩, .string ⟨#[114, 101, 112, 97, 114, 101, 110, 116]⟩, .string ⟨#[109, 101, 114, 103, 101]⟩, .string ⟨#[115, 112, 108, 105, 116]⟩, .string ⟨#[114, 101, 99, 111, 100, 101]⟩, .string ⟨#[106, 111, 105, 110]⟩, .string ⟨#[99, 97, 108, 101, 110, 100, 97, 114]⟩] 9)) (.cells #[.string ⟨#[116, 111]⟩, .string ⟨#[]⟩, .string ⟨#[117, 110, 100, 101, 114]⟩, .string ⟨#[105, 110, 116, 111]⟩, .string ⟨#[105, 110, 116, 111]⟩, .string ⟨#[116, 111]⟩, .string ⟨#[105, 110, 116, 111]⟩, .string ⟨#[117, 110, 116, 105, 108]⟩] 9))
  go_quiet ((first | (go_at_call 17; exact Calls.quiet_of_same (HW.out _ (HM.out.below (below_dN HB2.out _)))) | (go_at_call 18; exact Calls.quiet_of_same (HL.out _ (HM.out.below (below_dN HB2.out _)))) | (go_at_call 19; exact Calls.quiet_of_same (HU.out _))))
  go_wp2_with fail
  go_ret
  exact ⟨rfl, below_dN HB2.out _⟩
set_option maxHeartbeats 2000000 in
set_option maxRecDepth 100000 in
theorem words_1 (w : World) (hM : Glb13 w) :
    Calls Tryz.prog 7 #[.int .i64 1] w fun e w' => e = .returned (.bool true) ∧ Below w.heap.size w w' := by
  have HA := Lib.hid (awake13 w hM)
  have HW : Hid (∀ W, Glb13 W → Calls Tryz.prog 17 #[.int .i64 1] W fun e w' => e = .returned (.string ⟨#[114, 101, 110, 97, 109, 101]⟩) ∧ w' = W) := Lib.hid fun W hW => word_any 1 (by omega) W hW
  have HL : Hid (∀ W, Glb13 W → Calls Tryz.prog 18 #[.int .i64 1] W fun e w' => e = .returned (.string ⟨#[]⟩) ∧ w' = W) := Lib.hid fun W hW => link_any 1 (by omega) W hW
  have HU : Hid (∀ W, Calls Tryz.prog 19 #[.int .i64 1] W fun e w' => e = .returned (.bool false) ∧ w' = W) := Lib.hid fun W => unit_kind 1 W
  have HM := Lib.hid hM
  clear hM
  go_enter Tryz.func7, Tryz.ntmps7
  go_wp2_with fail
  refine HA.out.mono ?_
  rintro _ w1 ⟨rfl, hb⟩
  have HB := Lib.hid hb
  clear hb
  go_wp2_with fail
  have HB2 := Lib.hid (below_alloc (below_alloc HB.out (.cells #[.string ⟨#[114, 101, 110, 117, 109, 98, 101, 114]⟩, .string ⟨#[114, 101, 110, 97, 109, 101]⟩, .string ⟨#[114, 101, 112, 97, 114, 101, 110, 116]⟩, .string ⟨#[109, 101, 114, 103, 101]⟩, .string ⟨#[115, 112, 108, 105, 116]⟩, .string ⟨#[114, 101, 99, 111, 100, 101]⟩, .string ⟨#[106, 111, 105, 110]⟩, .string ⟨#[99, 97, 108, 101, 110, 100, 97, 114]⟩] 9)) (.cells #[.string ⟨#[116, 111]⟩, .string ⟨#[]⟩, .string ⟨#[117, 110, 100, 101, 114]⟩, .string ⟨#[105, 110, 116, 111]⟩, .string ⟨#[105, 110, 116, 111]⟩, .string ⟨#[116, 111]⟩, .string ⟨#[105, 110, 116, 111]⟩, .string ⟨#[117, 110, 116, 105, 108]⟩] 9))
  go_quiet ((first | (go_at_call 17; exact Calls.quiet_of_same (HW.out _ (HM.out.below (below_dN HB2.out _)))) | (go_at_call 18; exact Calls.quiet_of_same (HL.out _ (HM.out.below (below_dN HB2.out _)))) | (go_at_call 19; exact Calls.quiet_of_same (HU.out _))))
  go_wp2_with fail
  go_ret
  exact ⟨rfl, below_dN HB2.out _⟩
set_option maxHeartbeats 2000000 in
set_option maxRecDepth 100000 in
theorem words_2 (w : World) (hM : Glb13 w) :
    Calls Tryz.prog 7 #[.int .i64 2] w fun e w' => e = .returned (.bool true) ∧ Below w.heap.size w w' := by
  have HA := Lib.hid (awake13 w hM)
  have HW : Hid (∀ W, Glb13 W → Calls Tryz.prog 17 #[.int .i64 2] W fun e w' => e = .returned (.string ⟨#[114, 101, 112, 97, 114, 101, 110, 116]⟩) ∧ w' = W) := Lib.hid fun W hW => word_any 2 (by omega) W hW
  have HL : Hid (∀ W, Glb13 W → Calls Tryz.prog 18 #[.int .i64 2] W fun e w' => e = .returned (.string ⟨#[117, 110, 100, 101, 114]⟩) ∧ w' = W) := Lib.hid fun W hW => link_any 2 (by omega) W hW
  have HU : Hid (∀ W, Calls Tryz.prog 19 #[.int .i64 2] W fun e w' => e = .returned (.bool false) ∧ w' = W) := Lib.hid fun W => unit_kind 2 W
  have HM := Lib.hid hM
  clear hM
  go_enter Tryz.func7, Tryz.ntmps7
  go_wp2_with fail
  refine HA.out.mono ?_
  rintro _ w1 ⟨rfl, hb⟩
  have HB := Lib.hid hb
  clear hb
  go_wp2_with fail
  have HB2 := Lib.hid (below_alloc (below_alloc HB.out (.cells #[.string ⟨#[114, 101, 110, 117, 109, 98, 101, 114]⟩, .string ⟨#[114, 101, 110, 97, 109, 101]⟩, .string ⟨#[114, 101, 112, 97, 114, 101, 110, 116]⟩, .string ⟨#[109, 101, 114, 103, 101]⟩, .string ⟨#[115, 112, 108, 105, 116]⟩, .string ⟨#[114, 101, 99, 111, 100, 101]⟩, .string ⟨#[106, 111, 105, 110]⟩, .string ⟨#[99, 97, 108, 101, 110, 100, 97, 114]⟩] 9)) (.cells #[.string ⟨#[116, 111]⟩, .string ⟨#[]⟩, .string ⟨#[117, 110, 100, 101, 114]⟩, .string ⟨#[105, 110, 116, 111]⟩, .string ⟨#[105, 110, 116, 111]⟩, .string ⟨#[116, 111]⟩, .string ⟨#[105, 110, 116, 111]⟩, .string ⟨#[117, 110, 116, 105, 108]⟩] 9))
  go_quiet ((first | (go_at_call 17; exact Calls.quiet_of_same (HW.out _ (HM.out.below (below_dN HB2.out _)))) | (go_at_call 18; exact Calls.quiet_of_same (HL.out _ (HM.out.below (below_dN HB2.out _)))) | (go_at_call 19; exact Calls.quiet_of_same (HU.out _))))
  go_wp2_with fail
  go_ret
  exact ⟨rfl, below_dN HB2.out _⟩
set_option maxHeartbeats 2000000 in
set_option maxRecDepth 100000 in
theorem words_3 (w : World) (hM : Glb13 w) :
    Calls Tryz.prog 7 #[.int .i64 3] w fun e w' => e = .returned (.bool true) ∧ Below w.heap.size w w' := by
  have HA := Lib.hid (awake13 w hM)
  have HW : Hid (∀ W, Glb13 W → Calls Tryz.prog 17 #[.int .i64 3] W fun e w' => e = .returned (.string ⟨#[109, 101, 114, 103, 101]⟩) ∧ w' = W) := Lib.hid fun W hW => word_any 3 (by omega) W hW
  have HL : Hid (∀ W, Glb13 W → Calls Tryz.prog 18 #[.int .i64 3] W fun e w' => e = .returned (.string ⟨#[105, 110, 116, 111]⟩) ∧ w' = W) := Lib.hid fun W hW => link_any 3 (by omega) W hW
  have HU : Hid (∀ W, Calls Tryz.prog 19 #[.int .i64 3] W fun e w' => e = .returned (.bool false) ∧ w' = W) := Lib.hid fun W => unit_kind 3 W
  have HM := Lib.hid hM
  clear hM
  go_enter Tryz.func7, Tryz.ntmps7
  go_wp2_with fail
  refine HA.out.mono ?_
  rintro _ w1 ⟨rfl, hb⟩
  have HB := Lib.hid hb
  clear hb
  go_wp2_with fail
  have HB2 := Lib.hid (below_alloc (below_alloc HB.out (.cells #[.string ⟨#[114, 101, 110, 117, 109, 98, 101, 114]⟩, .string ⟨#[114, 101, 110, 97, 109, 101]⟩, .string ⟨#[114, 101, 112, 97, 114, 101, 110, 116]⟩, .string ⟨#[109, 101, 114, 103, 101]⟩, .string ⟨#[115, 112, 108, 105, 116]⟩, .string ⟨#[114, 101, 99, 111, 100, 101]⟩, .string ⟨#[106, 111, 105, 110]⟩, .string ⟨#[99, 97, 108, 101, 110, 100, 97, 114]⟩] 9)) (.cells #[.string ⟨#[116, 111]⟩, .string ⟨#[]⟩, .string ⟨#[117, 110, 100, 101, 114]⟩, .string ⟨#[105, 110, 116, 111]⟩, .string ⟨#[105, 110, 116, 111]⟩, .string ⟨#[116, 111]⟩, .string ⟨#[105, 110, 116, 111]⟩, .string ⟨#[117, 110, 116, 105, 108]⟩] 9))
  go_quiet ((first | (go_at_call 17; exact Calls.quiet_of_same (HW.out _ (HM.out.below (below_dN HB2.out _)))) | (go_at_call 18; exact Calls.quiet_of_same (HL.out _ (HM.out.below (below_dN HB2.out _)))) | (go_at_call 19; exact Calls.quiet_of_same (HU.out _))))
  go_wp2_with fail
  go_ret
  exact ⟨rfl, below_dN HB2.out _⟩
set_option maxHeartbeats 2000000 in
set_option maxRecDepth 100000 in
theorem words_4 (w : World) (hM : Glb13 w) :
    Calls Tryz.prog 7 #[.int .i64 4] w fun e w' => e = .returned (.bool true) ∧ Below w.heap.size w w' := by
  have HA := Lib.hid (awake13 w hM)
  have HW : Hid (∀ W, Glb13 W → Calls Tryz.prog 17 #[.int .i64 4] W fun e w' => e = .returned (.string ⟨#[115, 112, 108, 105, 116]⟩) ∧ w' = W) := Lib.hid fun W hW => word_any 4 (by omega) W hW
  have HL : Hid (∀ W, Glb13 W → Calls Tryz.prog 18 #[.int .i64 4] W fun e w' => e = .returned (.string ⟨#[105, 110, 116, 111]⟩) ∧ w' = W) := Lib.hid fun W hW => link_any 4 (by omega) W hW
  have HU : Hid (∀ W, Calls Tryz.prog 19 #[.int .i64 4] W fun e w' => e = .returned (.bool false) ∧ w' = W) := Lib.hid fun W => unit_kind 4 W
  have HM := Lib.hid hM
  clear hM
  go_enter Tryz.func7, Tryz.ntmps7
  go_wp2_with fail
  refine HA.out.mono ?_
  rintro _ w1 ⟨rfl, hb⟩
  have HB := Lib.hid hb
  clear hb
  go_wp2_with fail
  have HB2 := Lib.hid (below_alloc (below_alloc HB.out (.cells #[.string ⟨#[114, 101, 110, 117, 109, 98, 101, 114]⟩, .string ⟨#[114, 101, 110, 97, 109, 101]⟩, .string ⟨#[114, 101, 112, 97, 114, 101, 110, 116]⟩, .string ⟨#[109, 101, 114, 103, 101]⟩, .string ⟨#[115, 112, 108, 105, 116]⟩, .string ⟨#[114, 101, 99, 111, 100, 101]⟩, .string ⟨#[106, 111, 105, 110]⟩, .string ⟨#[99, 97, 108, 101, 110, 100, 97, 114]⟩] 9)) (.cells #[.string ⟨#[116, 111]⟩, .string ⟨#[]⟩, .string ⟨#[117, 110, 100, 101, 114]⟩, .string ⟨#[105, 110, 116, 111]⟩, .string ⟨#[105, 110, 116, 111]⟩, .string ⟨#[116, 111]⟩, .string ⟨#[105, 110, 116, 111]⟩, .string ⟨#[117, 110, 116, 105, 108]⟩] 9))
  go_quiet ((first | (go_at_call 17; exact Calls.quiet_of_same (HW.out _ (HM.out.below (below_dN HB2.out _)))) | (go_at_call 18; exact Calls.quiet_of_same (HL.out _ (HM.out.below (below_dN HB2.out _)))) | (go_at_call 19; exact Calls.quiet_of_same (HU.out _))))
  go_wp2_with fail
  go_ret
  exact ⟨rfl, below_dN HB2.out _⟩
set_option maxHeartbeats 2000000 in
set_option maxRecDepth 100000 in
theorem words_5 (w : World) (hM : Glb13 w) :
    Calls Tryz.prog 7 #[.int .i64 5] w fun e w' => e = .returned (.bool true) ∧ Below w.heap.size w w' := by
  have HA := Lib.hid (awake13 w hM)
  have HW : Hid (∀ W, Glb13 W → Calls Tryz.prog 17 #[.int .i64 5] W fun e w' => e = .returned (.string ⟨#[114, 101, 99, 111, 100, 101]⟩) ∧ w' = W) := Lib.hid fun W hW => word_any 5 (by omega) W hW
  have HL : Hid (∀ W, Glb13 W → Calls Tryz.prog 18 #[.int .i64 5] W fun e w' => e = .returned (.string ⟨#[116, 111]⟩) ∧ w' = W) := Lib.hid fun W hW => link_any 5 (by omega) W hW
  have HU : Hid (∀ W, Calls Tryz.prog 19 #[.int .i64 5] W fun e w' => e = .returned (.bool true) ∧ w' = W) := Lib.hid fun W => unit_kind 5 W
  have HM := Lib.hid hM
  clear hM
  go_enter Tryz.func7, Tryz.ntmps7
  go_wp2_with fail
  refine HA.out.mono ?_
  rintro _ w1 ⟨rfl, hb⟩
  have HB := Lib.hid hb
  clear hb
  go_wp2_with fail
  have HB2 := Lib.hid (below_alloc (below_alloc HB.out (.cells #[.string ⟨#[114, 101, 110, 117, 109, 98, 101, 114]⟩, .string ⟨#[114, 101, 110, 97, 109, 101]⟩, .string ⟨#[114, 101, 112, 97, 114, 101, 110, 116]⟩, .string ⟨#[109, 101, 114, 103, 101]⟩, .string ⟨#[115, 112, 108, 105, 116]⟩, .string ⟨#[114, 101, 99, 111, 100, 101]⟩, .string ⟨#[106, 111, 105, 110]⟩, .string ⟨#[99, 97, 108, 101, 110, 100, 97, 114]⟩] 9)) (.cells #[.string ⟨#[116, 111]⟩, .string ⟨#[]⟩, .string ⟨#[117, 110, 100, 101, 114]⟩, .string ⟨#[105, 110, 116, 111]⟩, .string ⟨#[105, 110, 116, 111]⟩, .string ⟨#[116, 111]⟩, .string ⟨#[105, 110, 116, 111]⟩, .string ⟨#[117, 110, 116, 105, 108]⟩] 9))
  go_quiet ((first | (go_at_call 17; exact Calls.quiet_of_same (HW.out _ (HM.out.below (below_dN HB2.out _)))) | (go_at_call 18; exact Calls.quiet_of_same (HL.out _ (HM.out.below (below_dN HB2.out _)))) | (go_at_call 19; exact Calls.quiet_of_same (HU.out _))))
  go_wp2_with fail
  go_ret
  exact ⟨rfl, below_dN HB2.out _⟩
set_option maxHeartbeats 2000000 in
set_option maxRecDepth 100000 in
theorem words_6 (w : World) (hM : Glb13 w) :
    Calls Tryz.prog 7 #[.int .i64 6] w fun e w' => e = .returned (.bool true) ∧ Below w.heap.size w w' := by
  have HA := Lib.hid (awake13 w hM)
  have HW : Hid (∀ W, Glb13 W → Calls Tryz.prog 17 #[.int .i64 6] W fun e w' => e = .returned (.string ⟨#[106, 111, 105, 110]⟩) ∧ w' = W) := Lib.hid fun W hW => word_any 6 (by omega) W hW
  have HL : Hid (∀ W, Glb13 W → Calls Tryz.prog 18 #[.int .i64 6] W fun e w' => e = .returned (.string ⟨#[105, 110, 116, 111]⟩) ∧ w' = W) := Lib.hid fun W hW => link_any 6 (by omega) W hW
  have HU : Hid (∀ W, Calls Tryz.prog 19 #[.int .i64 6] W fun e w' => e = .returned (.bool true) ∧ w' = W) := Lib.hid fun W => unit_kind 6 W
  have HM := Lib.hid hM
  clear hM
  go_enter Tryz.func7, Tryz.ntmps7
  go_wp2_with fail
  refine HA.out.mono ?_
  rintro _ w1 ⟨rfl, hb⟩
  have HB := Lib.hid hb
  clear hb
  go_wp2_with fail
  have HB2 := Lib.hid (below_alloc (below_alloc HB.out (.cells #[.string ⟨#[114, 101, 110, 117, 109, 98, 101, 114]⟩, .string ⟨#[114, 101, 110, 97, 109, 101]⟩, .string ⟨#[114, 101, 112, 97, 114, 101, 110, 116]⟩, .string ⟨#[109, 101, 114, 103, 101]⟩, .string ⟨#[115, 112, 108, 105, 116]⟩, .string ⟨#[114, 101, 99, 111, 100, 101]⟩, .string ⟨#[106, 111, 105, 110]⟩, .string ⟨#[99, 97, 108, 101, 110, 100, 97, 114]⟩] 9)) (.cells #[.string ⟨#[116, 111]⟩, .string ⟨#[]⟩, .string ⟨#[117, 110, 100, 101, 114]⟩, .string ⟨#[105, 110, 116, 111]⟩, .string ⟨#[105, 110, 116, 111]⟩, .string ⟨#[116, 111]⟩, .string ⟨#[105, 110, 116, 111]⟩, .string ⟨#[117, 110, 116, 105, 108]⟩] 9))
  go_quiet ((first | (go_at_call 17; exact Calls.quiet_of_same (HW.out _ (HM.out.below (below_dN HB2.out _)))) | (go_at_call 18; exact Calls.quiet_of_same (HL.out _ (HM.out.below (below_dN HB2.out _)))) | (go_at_call 19; exact Calls.quiet_of_same (HU.out _))))
  go_wp2_with fail
  go_ret
  exact ⟨rfl, below_dN HB2.out _⟩
set_option maxHeartbeats 2000000 in
set_option maxRecDepth 100000 in
theorem words_7 (w : World) (hM : Glb13 w) :
    Calls Tryz.prog 7 #[.int .i64 7] w fun e w' => e = .returned (.bool true) ∧ Below w.heap.size w w' := by
  have HA := Lib.hid (awake13 w hM)
  have HW : Hid (∀ W, Glb13 W → Calls Tryz.prog 17 #[.int .i64 7] W fun e w' => e = .returned (.string ⟨#[99, 97, 108, 101, 110, 100, 97, 114]⟩) ∧ w' = W) := Lib.hid fun W hW => word_any 7 (by omega) W hW
  have HL : Hid (∀ W, Glb13 W → Calls Tryz.prog 18 #[.int .i64 7] W fun e w' => e = .returned (.string ⟨#[117, 110, 116, 105, 108]⟩) ∧ w' = W) := Lib.hid fun W hW => link_any 7 (by omega) W hW
  have HU : Hid (∀ W, Calls Tryz.prog 19 #[.int .i64 7] W fun e w' => e = .returned (.bool false) ∧ w' = W) := Lib.hid fun W => unit_kind 7 W
  have HM := Lib.hid hM
  clear hM
  go_enter Tryz.func7, Tryz.ntmps7
  go_wp2_with fail
  refine HA.out.mono ?_
  rintro _ w1 ⟨rfl, hb⟩
  have HB := Lib.hid hb
  clear hb
  go_wp2_with fail
  have HB2 := Lib.hid (below_alloc (below_alloc HB.out (.cells #[.string ⟨#[114, 101, 110, 117, 109, 98, 101, 114]⟩, .string ⟨#[114, 101, 110, 97, 109, 101]⟩, .string ⟨#[114, 101, 112, 97, 114, 101, 110, 116]⟩, .string ⟨#[109, 101, 114, 103, 101]⟩, .string ⟨#[115, 112, 108, 105, 116]⟩, .string ⟨#[114, 101, 99, 111, 100, 101]⟩, .string ⟨#[106, 111, 105, 110]⟩, .string ⟨#[99, 97, 108, 101, 110, 100, 97, 114]⟩] 9)) (.cells #[.string ⟨#[116, 111]⟩, .string ⟨#[]⟩, .string ⟨#[117, 110, 100, 101, 114]⟩, .string ⟨#[105, 110, 116, 111]⟩, .string ⟨#[105, 110, 116, 111]⟩, .string ⟨#[116, 111]⟩, .string ⟨#[105, 110, 116, 111]⟩, .string ⟨#[117, 110, 116, 105, 108]⟩] 9))
  go_quiet ((first | (go_at_call 17; exact Calls.quiet_of_same (HW.out _ (HM.out.below (below_dN HB2.out _)))) | (go_at_call 18; exact Calls.quiet_of_same (HL.out _ (HM.out.below (below_dN HB2.out _)))) | (go_at_call 19; exact Calls.quiet_of_same (HU.out _))))
  go_wp2_with fail
  go_ret
  exact ⟨rfl, below_dN HB2.out _⟩
set_option maxHeartbeats 2000000 in
set_option maxRecDepth 100000 in
theorem scriptWords_law (n : Int) (w : World) (hM : Glb13 w) :
    Calls Tryz.prog 7 #[.int .i64 n] w fun e w' => e = .returned (.bool true) ∧ Below w.heap.size w w' := by
  have HM := Lib.hid hM
  have HA := Lib.hid (awake13 w hM)
  by_cases h : n < 0 ∨ 8 ≤ n
  · have HW := Lib.hid fun W => (word_no n h W).1
    have HL := Lib.hid fun W => (word_no n h W).2
    have HU := Lib.hid (unit_kind n)
    rw [decide_eq_false (show ¬ n = 5 by omega), decide_eq_false (show ¬ n = 6 by omega)] at HU
    have h' : n < 0 ∨ (¬ n < 0 ∧ (7 : Int) < n) := by omega
    clear h hM
    rcases h' with q | ⟨q, q2⟩
    all_goals
      go_enter Tryz.func7, Tryz.ntmps7
      go_wp2_with fail
      refine HA.out.mono ?_
      rintro _ w1 ⟨rfl, hb⟩
      have HB := Lib.hid hb
      clear hb
      go_wp2_with fail
      refine (HW.out _).mono ?_
      rintro _ w2 ⟨rfl, rfl⟩
      go_wp2_with fail
      refine (HL.out _).mono ?_
      rintro _ w3 ⟨rfl, rfl⟩
      go_wp2_with fail
      refine (HU.out _).mono ?_
      rintro _ w4 ⟨rfl, rfl⟩
      go_wp2_with fail
      exact bodyPost_ret (v := .bool true) (by simp [results, Tryz.results7, go_sem]) rfl ⟨rfl, HB.out⟩
  · have h' : n = 0 ∨ n = 1 ∨ n = 2 ∨ n = 3 ∨ n = 4 ∨ n = 5 ∨ n = 6 ∨ n = 7 := by omega
    rcases h' with rfl | rfl | rfl | rfl | rfl | rfl | rfl | rfl
    · exact words_0 w hM
    · exact words_1 w hM
    · exact words_2 w hM
    · exact words_3 w hM
    · exact words_4 w hM
    · exact words_5 w hM
    · exact words_6 w hM
    · exact words_7 w hM
end Go.Proofs.YtbnhodpbamijkaaGreatDoor
