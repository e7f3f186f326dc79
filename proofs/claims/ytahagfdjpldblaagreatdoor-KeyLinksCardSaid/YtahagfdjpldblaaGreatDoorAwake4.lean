/-
  Layer 4's fixed fact: it answers true.
-/
import Derived.Test.YtahagfdjpldblaaGreatDoorDay
import Derived.Test.YtahagfdjpldblaaGreatDoorAwake3
namespace Go.Proofs.YtahagfdjpldblaaGreatDoor
open Go.RowKit
set_option linter.unusedVariables false
set_option linter.unusedSimpArgs false

theorem of_1970 (w : World) (hM : Glb5 w) :
    Calls Tryz.prog 32 #[.int .i64 1970, .int .i64 1, .int .i64 1] w fun e w' => e = .returned (.tuple #[.int .i32 0, .bool true]) ∧ w' = w := by
  have L1 := Lib.hid (long_any 1970 1 (by omega) (by omega) (by omega))
  rw [show Dy.long 1970 1 = 31 by decide] at L1
  have A1 := Lib.hid (ahead_any 1970 (by omega))
  rw [show Dy.ahead 1970 = 0 by decide] at A1
  go_enter Tryz.func32, Tryz.ntmps32
  go_wp2_with fail
  refine (L1.out _ hM).mono ?_
  rintro _ w1 ⟨rfl, rfl⟩
  go_wp2_with fail
  refine (A1.out _).mono ?_
  rintro _ w1 ⟨rfl, rfl⟩
  go_wp2_with fail
  refine wp_loop_rounds 1 ?_
  rw [rounds_succ]
  go_wp2
  go_ret2
  exact ⟨rfl, rfl⟩
theorem of_2000 (w : World) (hM : Glb5 w) :
    Calls Tryz.prog 32 #[.int .i64 2000, .int .i64 2, .int .i64 29] w fun e w' => e = .returned (.tuple #[.int .i32 11016, .bool true]) ∧ w' = w := by
  have L1 := Lib.hid (long_any 2000 2 (by omega) (by omega) (by omega))
  rw [show Dy.long 2000 2 = 29 by decide] at L1
  have L2 := Lib.hid (long_any 2000 1 (by omega) (by omega) (by omega))
  rw [show Dy.long 2000 1 = 31 by decide] at L2
  have A1 := Lib.hid (ahead_any 2000 (by omega))
  rw [show Dy.ahead 2000 = 10957 by decide] at A1
  go_enter Tryz.func32, Tryz.ntmps32
  go_wp2_with fail
  refine (L1.out _ hM).mono ?_
  rintro _ w1 ⟨rfl, rfl⟩
  go_wp2_with fail
  refine (A1.out _).mono ?_
  rintro _ w1 ⟨rfl, rfl⟩
  go_wp2_with fail
  refine wp_loop_rounds 2 ?_
  rw [rounds_succ]
  go_wp2_with fail
  refine (L2.out _ hM).mono ?_
  rintro _ w1 ⟨rfl, rfl⟩
  go_wp2_with fail
  rw [rounds_succ]
  go_wp2
  go_ret2
  exact ⟨rfl, rfl⟩
theorem date_2000 (w : World) (hM : Glb5 w) :
    Calls Tryz.prog 40 #[.int .i32 11016] w fun e w' => e = .returned (.tuple #[.int .i64 2000, .int .i64 2, .int .i64 29]) ∧ w' = w := by
  have L1 := Lib.hid (long_any 2000 2 (by omega) (by omega) (by omega))
  rw [show Dy.long 2000 2 = 29 by decide] at L1
  have L2 := Lib.hid (long_any 2000 1 (by omega) (by omega) (by omega))
  rw [show Dy.long 2000 1 = 31 by decide] at L2
  have A1 := Lib.hid (ahead_any 1 (by omega))
  rw [show Dy.ahead 1 = -719162 by decide] at A1
  have A2 := Lib.hid (ahead_any 10000 (by omega))
  rw [show Dy.ahead 10000 = 2932897 by decide] at A2
  have A3 := Lib.hid (ahead_any 2000 (by omega))
  rw [show Dy.ahead 2000 = 10957 by decide] at A3
  have A4 := Lib.hid (ahead_any 2001 (by omega))
  rw [show Dy.ahead 2001 = 11323 by decide] at A4
  go_enter Tryz.func40, Tryz.ntmps40
  go_wp2_with fail
  refine (A1.out _).mono ?_
  rintro _ w1 ⟨rfl, rfl⟩
  go_wp2_with fail
  refine (A2.out _).mono ?_
  rintro _ w1 ⟨rfl, rfl⟩
  go_wp2_with fail
  refine wp_loop_rounds 1 ?_
  rw [rounds_succ]
  go_wp2_with fail
  refine (A3.out _).mono ?_
  rintro _ w1 ⟨rfl, rfl⟩
  go_wp2_with fail
  refine wp_loop_rounds 1 ?_
  rw [rounds_succ]
  go_wp2_with fail
  refine (A4.out _).mono ?_
  rintro _ w1 ⟨rfl, rfl⟩
  go_wp2_with fail
  refine (A3.out _).mono ?_
  rintro _ w1 ⟨rfl, rfl⟩
  go_wp2_with fail
  refine wp_loop_rounds 2 ?_
  rw [rounds_succ]
  go_wp2_with fail
  refine (L2.out _ hM).mono ?_
  rintro _ w1 ⟨rfl, rfl⟩
  go_wp2_with fail
  refine (L2.out _ hM).mono ?_
  rintro _ w1 ⟨rfl, rfl⟩
  go_wp2_with fail
  rw [rounds_succ]
  go_wp2_with fail
  refine (L1.out _ hM).mono ?_
  rintro _ w1 ⟨rfl, rfl⟩
  go_wp2
  go_ret3
  exact ⟨rfl, rfl⟩
theorem itoa_any (n : Int) (h : Wd.I64 n) (w : World) (hG : Glb w) :
    Calls Tryz.prog 50 #[.int .i64 n] w fun e w' => e = .returned (.string ⟨(Lib.itoa n).toArray⟩) ∧ Below w.heap.size w w' := by
  unfold Wd.I64 at h
  refine (Any.strconv_Itoa Tryz.laysM171 n h.1 h.2 w hG.pow).mono ?_
  rintro _ w' ⟨rfl, k, os, rfl⟩
  exact ⟨rfl, Lib.below_grow w.heap.size w (Nat.le_refl _) k os⟩
set_option maxRecDepth 100000 in
theorem repeat0 (s : ByteArray) (w : World) : Calls Tryz.prog 51 #[.string s, .int .i64 0] w fun e w' => e = .returned (.string ⟨#[]⟩) ∧ w' = w := by
  go_enter Tryz.func51, Tryz.ntmps51
  go_wp2
  go_ret
  exact ⟨rfl, rfl⟩
set_option maxRecDepth 100000 in
theorem repeat1 (s : ByteArray) (w : World) : Calls Tryz.prog 51 #[.string s, .int .i64 1] w fun e w' => e = .returned (.string s) ∧ w' = w := by
  go_enter Tryz.func51, Tryz.ntmps51
  go_wp2
  go_ret
  exact ⟨rfl, rfl⟩
theorem pad_2000 (w : World) (hG : Glb w) : Calls Tryz.prog 41 #[.int .i64 2000, .int .i64 4] w fun e w' => e = .returned (.string ⟨#[50, 48, 48, 48]⟩) ∧ Below w.heap.size w w' := by
  have I := Lib.hid (itoa_any 2000 (by unfold Wd.I64; omega))
  rw [show Lib.itoa 2000 = [50, 48, 48, 48] by decide +kernel] at I
  go_enter Tryz.func41, Tryz.ntmps41
  go_wp2_with fail
  refine (I.out _ hG).mono ?_
  rintro _ w1 ⟨rfl, hb⟩
  go_wp2_with fail
  refine (repeat0 _ _).mono ?_
  rintro _ w2 ⟨rfl, rfl⟩
  go_wp2
  go_ret
  exact ⟨ret_str (by decide), hb⟩
theorem pad_2 (w : World) (hG : Glb w) : Calls Tryz.prog 41 #[.int .i64 2, .int .i64 2] w fun e w' => e = .returned (.string ⟨#[48, 50]⟩) ∧ Below w.heap.size w w' := by
  have I := Lib.hid (itoa_any 2 (by unfold Wd.I64; omega))
  rw [show Lib.itoa 2 = [50] by decide +kernel] at I
  go_enter Tryz.func41, Tryz.ntmps41
  go_wp2_with fail
  refine (I.out _ hG).mono ?_
  rintro _ w1 ⟨rfl, hb⟩
  go_wp2_with fail
  refine (repeat1 _ _).mono ?_
  rintro _ w2 ⟨rfl, rfl⟩
  go_wp2
  go_ret
  exact ⟨ret_str (by decide), hb⟩
theorem pad_29 (w : World) (hG : Glb w) : Calls Tryz.prog 41 #[.int .i64 29, .int .i64 2] w fun e w' => e = .returned (.string ⟨#[50, 57]⟩) ∧ Below w.heap.size w w' := by
  have I := Lib.hid (itoa_any 29 (by unfold Wd.I64; omega))
  rw [show Lib.itoa 29 = [50, 57] by decide +kernel] at I
  go_enter Tryz.func41, Tryz.ntmps41
  go_wp2_with fail
  refine (I.out _ hG).mono ?_
  rintro _ w1 ⟨rfl, hb⟩
  go_wp2_with fail
  refine (repeat0 _ _).mono ?_
  rintro _ w2 ⟨rfl, rfl⟩
  go_wp2
  go_ret
  exact ⟨ret_str (by decide), hb⟩
theorem day_text (w : World) (hM : Glb5 w) : Calls Tryz.prog 33 #[.int .i32 11016] w fun e w' => e = .returned (.string ⟨#[50, 48, 48, 48, 45, 48, 50, 45, 50, 57]⟩) ∧ Below w.heap.size w w' := by
  go_enter Tryz.func33, Tryz.ntmps33
  go_wp2_with fail
  refine (date_2000 _ hM).mono ?_
  rintro _ w1 ⟨rfl, rfl⟩
  go_wp2_with fail
  refine (pad_2000 _ hM.glb).mono ?_
  rintro _ w1 ⟨rfl, hb1⟩
  go_wp2_with fail
  refine (pad_2 _ (hM.glb.below hb1)).mono ?_
  rintro _ w2 ⟨rfl, hb2⟩
  have hB2 := below_then hb1 hb2
  go_wp2_with fail
  refine (pad_29 _ (hM.glb.below hB2)).mono ?_
  rintro _ w3 ⟨rfl, hb3⟩
  go_wp2
  go_ret
  exact ⟨ret_str (by decide), below_then hB2 hb3⟩
set_option maxHeartbeats 1000000 in
theorem awake4 (w : World) (hM : Glb5 w) : Calls Tryz.prog 23 #[] w fun e w' => e = .returned (.bool true) ∧ Below w.heap.size w w' := by
  go_enter Tryz.func23, Tryz.ntmps23
  go_wp2_with fail
  refine (of_1970 _ hM).mono ?_
  rintro _ w1 ⟨rfl, rfl⟩
  go_wp2_with fail
  refine (of_2000 _ hM).mono ?_
  rintro _ w1 ⟨rfl, rfl⟩
  go_wp2_with fail
  refine (day_text _ hM).mono ?_
  rintro _ w2 ⟨rfl, hb2⟩
  go_wp2_with fail
  refine (awake3 _ (hM.glb.below hb2)).mono ?_
  rintro _ w3 ⟨rfl, hb3⟩
  go_wp2
  go_ret
  exact ⟨rfl, below_then hb2 hb3⟩
end Go.Proofs.YtahagfdjpldblaaGreatDoor
