/-
  Own texts, several in one (Awake2, Awake3, Awake4).
-/
import Derived.Test.YtahagfdjpldblaaGreatDoorMrg8
import Derived.Test.YtahagfdjpldblaaGreatDoorMrg7
import Derived.Test.YtahagfdjpldblaaGreatDoorMrg4
namespace Go.Proofs.YtahagfdjpldblaaGreatDoor
open Go.RowKit
set_option linter.unusedVariables false
set_option linter.unusedSimpArgs false

theorem text_m5 : Mn.text (-5) = [45, 48, 46, 48, 53] := by decide +kernel
theorem parse_m5 : Mn.parse [45, 48, 46, 48, 53] = some (-5) := by rw [← text_m5]; exact Mn.parse_text (-5) (by omega)

set_option maxHeartbeats 400000 in
theorem awake2 (w : World) (hG : Glb w) :
    Calls Tryz.prog 44 #[] w fun e w' => e = .returned (.bool true) ∧ Below w.heap.size w w' := by
  have hp := Lib.hid (fun w hG => parse_any ⟨#[45, 48, 46, 48, 53]⟩ (by decide) w hG)
  rw [show ((⟨#[45, 48, 46, 48, 53]⟩ : ByteArray).data.toList) = [45, 48, 46, 48, 53] from rfl, parse_m5] at hp
  have ht := Lib.hid (text_any (-5) (by unfold Wd.I64; omega))
  rw [text_m5] at ht
  go_enter Tryz.func44, Tryz.ntmps44
  go_wp2_with fail
  refine (hp.out _ hG).mono ?_
  rintro _ w1 ⟨rfl, hb1⟩
  unfold Mn.end_
  go_wp2_with fail
  refine (ht.out _ (hG.below hb1)).mono ?_
  rintro _ w2 ⟨rfl, hb2⟩
  have hB2 := below_then hb1 hb2
  go_wp2_with fail
  refine (awake1 _).mono ?_
  rintro _ w3 ⟨rfl, hb3⟩
  go_wp2
  go_ret
  exact ⟨rfl, below_then hB2 hb3⟩
end Go.Proofs.YtahagfdjpldblaaGreatDoor

namespace Go.Proofs.YtahagfdjpldblaaGreatDoor
open Go.RowKit
set_option linter.unusedVariables false
set_option linter.unusedSimpArgs false

theorem allot_len (a : Int) (ws : List Nat) : (Sh.allot a ws).length = ws.length := by unfold Sh.allot; rw [List.length_map, Sh.sizes_len]
theorem allot_getD (a : Int) (ws : List Nat) (i : Nat) : (Sh.allot a ws).getD i 0 = if a < 0 then -(((Sh.sizes a.natAbs ws).getD i 0 : Nat) : Int) else (((Sh.sizes a.natAbs ws).getD i 0 : Nat) : Int) := by
  unfold Sh.allot
  rw [List.getD_eq_getElem?_getD, List.getElem?_map, List.getD_eq_getElem?_getD]
  cases (Sh.sizes a.natAbs ws)[i]? <;> simp
theorem mem_getD {l : List Int} {z : Int} (h : z ∈ l) : ∃ i, i < l.length ∧ l.getD i 0 = z := by
  obtain ⟨i, hi, e⟩ := List.mem_iff_getElem.1 h
  exact ⟨i, hi, by rw [List.getD_eq_getElem?_getD, List.getElem?_eq_getElem hi]; exact e⟩
theorem allot_I64 (a : Int) (ws : List Nat) (hI : Wd.I64 a) (hT : 0 < ws.sum) : ∀ z ∈ Sh.allot a ws, Wd.I64 z := by
  intro z hz
  obtain ⟨i, hi, rfl⟩ := mem_getD hz
  rw [allot_getD]
  have := Sh.sizes_le a.natAbs ws hT i
  unfold Wd.I64 at *
  split <;> omega
theorem allot_nums (a : Int) (p : Option Addr) (n cap : Nat) (ws : List Nat) (w : World) (hI : Wd.I64 a) (hn : IsNums w p n (ni ws)) (h1 : 1 ≤ n) (h8 : n ≤ 8) (hw : ∀ i, i < n → 1 ≤ ws.getD i 0 ∧ ws.getD i 0 ≤ 1000000) :
    Calls Tryz.prog 42 #[.int .i64 a, .slice p n cap] w fun e w' => ∃ q k, e = .returned (.tuple #[.slice q n k, .int .i64 0]) ∧ IsNums w' q n (Sh.allot a ws) ∧ Below w.heap.size w w' := by
  obtain ⟨hl, _, hn⟩ := hn
  have hl2 : ws.length = n := by simpa [ni] using hl
  rcases hn with h | ⟨b, off, rfl, hn⟩
  · omega
  · refine (allot_ok a b off n cap ws w hI hn hl2 h1 h8 hw).mono ?_
    rintro _ w' ⟨v, rfl, hown, hb⟩
    have hT : 0 < ws.sum := by
      have h := hw 0 (by omega)
      have := Sh.getD_le_sum ws 0
      omega
    obtain ⟨q, k, rfl, hN⟩ := nums_of_own hown (allot_I64 a ws hI hT)
    exact ⟨q, k, rfl, hN, hb⟩
theorem nums_lit {w : World} {b : Nat} {zs : List Int} {t : TypeId} (h : Row w b (iv zs).toArray t) (hz : ∀ z ∈ zs, Wd.I64 z) : IsNums w (some ⟨b, 0, none⟩) zs.length zs := by
  refine ⟨rfl, hz, .inr ⟨b, 0, rfl, fun i hi => ?_⟩⟩
  rw [Nat.zero_add, h.cell i]
  unfold iv
  simp [hi, List.getD_eq_getElem?_getD]

theorem i111 : ∀ z ∈ ni [1, 1, 1], Wd.I64 z := by
  intro z hz
  simp [ni] at hz
  subst hz
  unfold Wd.I64
  omega
theorem i433 : ∀ z ∈ [(4 : Int), 3, 3], Wd.I64 z := by
  intro z hz
  simp at hz
  unfold Wd.I64
  omega
theorem w111 : ∀ i, i < 3 → 1 ≤ [1, 1, 1].getD i 0 ∧ [1, 1, 1].getD i 0 ≤ 1000000 := by
  intro i hi
  obtain rfl | rfl | rfl : i = 0 ∨ i = 1 ∨ i = 2 := by omega
  all_goals exact ⟨by decide, by decide⟩

set_option maxHeartbeats 1000000 in
theorem awake3 (w : World) (hG : Glb w) :
    Calls Tryz.prog 34 #[] w fun e w' => e = .returned (.bool true) ∧ Below w.heap.size w w' := by
  have r3 : Sh.allot 10 [1, 1, 1] = [4, 3, 3] := by decide +kernel
  go_enter Tryz.func34, Tryz.ntmps34
  go_wp2_with fail
  have N1 : IsNums (w.alloc (.cells (iv [1, 1, 1]).toArray 2)) (some ⟨w.heap.size, 0, none⟩) 3 (ni [1, 1, 1]) := nums_lit (Row.new w _ _) i111
  refine (allot_nums 10 _ 3 3 [1, 1, 1] _ (by unfold Wd.I64; omega) N1 (by omega) (by omega) w111).mono ?_
  rintro _ w1 ⟨q, k, rfl, hN, hb⟩
  have hB1 := below_then ((Below.refl _ w).alloc (Nat.le_refl _) _) hb
  rw [r3] at hN
  go_wp2_with fail
  have N2 : IsNums (w1.alloc (.cells (iv [4, 3, 3]).toArray 2)) (some ⟨w1.heap.size, 0, none⟩) 3 [4, 3, 3] := nums_lit (Row.new w1 _ _) i433
  refine (equal_nums q _ k 3 3 [4, 3, 3] _ (hN.below ((Below.refl _ w1).alloc (Nat.le_refl _) _)) N2 (by omega)).mono ?_
  rintro _ w2 ⟨rfl, hb2⟩
  have hB2 := below_then (below_alloc hB1 _) hb2
  go_wp2_with fail
  refine (awake2 _ (hG.below hB2)).mono ?_
  rintro _ w3 ⟨rfl, hb3⟩
  go_wp2
  go_ret
  exact ⟨rfl, below_then hB2 hb3⟩
end Go.Proofs.YtahagfdjpldblaaGreatDoor

namespace Go.Proofs.YtahagfdjpldblaaGreatDoor
open Go.RowKit
set_option linter.unusedVariables false
set_option linter.unusedSimpArgs false

theorem of_1970 (w : World) (hM : Glb5 w) :
    Calls Tryz.prog 32 #[.int .i64 1970, .int .i64 1, .int .i64 1] w fun e w' => e = .returned (.tuple #[.int .i32 0, .bool true]) ∧ w' = w := by
  have L1 := Lib.hid (long_any 1970 1 (by omega) (by omega) (by omega))
  rw [show Dy.long 1970 1 = 31 by decide] at L1
  have A1 := Lib.hid (ahead_any 1970 (by omega))
  rw [show Dy.ahead 1970 = 0 by decide] at A1
  go_enter Tryz.func32, Tryz.ntmps32
  go_wp2_with fail
  refine (L1.out _ hM).mono ?_
  rintro _ w1 ⟨rfl, rfl⟩
  go_wp2_with fail
  refine (A1.out _).mono ?_
  rintro _ w1 ⟨rfl, rfl⟩
  go_wp2_with fail
  refine wp_loop_rounds 1 ?_
  rw [rounds_succ]
  go_wp2
  go_ret2
  exact ⟨rfl, rfl⟩
theorem of_2000 (w : World) (hM : Glb5 w) :
    Calls Tryz.prog 32 #[.int .i64 2000, .int .i64 2, .int .i64 29] w fun e w' => e = .returned (.tuple #[.int .i32 11016, .bool true]) ∧ w' = w := by
  have L1 := Lib.hid (long_any 2000 2 (by omega) (by omega) (by omega))
  rw [show Dy.long 2000 2 = 29 by decide] at L1
  have L2 := Lib.hid (long_any 2000 1 (by omega) (by omega) (by omega))
  rw [show Dy.long 2000 1 = 31 by decide] at L2
  have A1 := Lib.hid (ahead_any 2000 (by omega))
  rw [show Dy.ahead 2000 = 10957 by decide] at A1
  go_enter Tryz.func32, Tryz.ntmps32
  go_wp2_with fail
  refine (L1.out _ hM).mono ?_
  rintro _ w1 ⟨rfl, rfl⟩
  go_wp2_with fail
  refine (A1.out _).mono ?_
  rintro _ w1 ⟨rfl, rfl⟩
  go_wp2_with fail
  refine wp_loop_rounds 2 ?_
  rw [rounds_succ]
  go_wp2_with fail
  refine (L2.out _ hM).mono ?_
  rintro _ w1 ⟨rfl, rfl⟩
  go_wp2_with fail
  rw [rounds_succ]
  go_wp2
  go_ret2
  exact ⟨rfl, rfl⟩
theorem date_2000 (w : World) (hM : Glb5 w) :
    Calls Tryz.prog 40 #[.int .i32 11016] w fun e w' => e = .returned (.tuple #[.int .i64 2000, .int .i64 2, .int .i64 29]) ∧ w' = w := by
  have L1 := Lib.hid (long_any 2000 2 (by omega) (by omega) (by omega))
  rw [show Dy.long 2000 2 = 29 by decide] at L1
  have L2 := Lib.hid (long_any 2000 1 (by omega) (by omega) (by omega))
  rw [show Dy.long 2000 1 = 31 by decide] at L2
  have A1 := Lib.hid (ahead_any 1 (by omega))
  rw [show Dy.ahead 1 = -719162 by decide] at A1
  have A2 := Lib.hid (ahead_any 10000 (by omega))
  rw [show Dy.ahead 10000 = 2932897 by decide] at A2
  have A3 := Lib.hid (ahead_any 2000 (by omega))
  rw [show Dy.ahead 2000 = 10957 by decide] at A3
  have A4 := Lib.hid (ahead_any 2001 (by omega))
  rw [show Dy.ahead 2001 = 11323 by decide] at A4
  go_enter Tryz.func40, Tryz.ntmps40
  go_wp2_with fail
  refine (A1.out _).mono ?_
  rintro _ w1 ⟨rfl, rfl⟩
  go_wp2_with fail
  refine (A2.out _).mono ?_
  rintro _ w1 ⟨rfl, rfl⟩
  go_wp2_with fail
  refine wp_loop_rounds 1 ?_
  rw [rounds_succ]
  go_wp2_with fail
  refine (A3.out _).mono ?_
  rintro _ w1 ⟨rfl, rfl⟩
  go_wp2_with fail
  refine wp_loop_rounds 1 ?_
  rw [rounds_succ]
  go_wp2_with fail
  refine (A4.out _).mono ?_
  rintro _ w1 ⟨rfl, rfl⟩
  go_wp2_with fail
  refine (A3.out _).mono ?_
  rintro _ w1 ⟨rfl, rfl⟩
  go_wp2_with fail
  refine wp_loop_rounds 2 ?_
  rw [rounds_succ]
  go_wp2_with fail
  refine (L2.out _ hM).mono ?_
  rintro _ w1 ⟨rfl, rfl⟩
  go_wp2_with fail
  refine (L2.out _ hM).mono ?_
  rintro _ w1 ⟨rfl, rfl⟩
  go_wp2_with fail
  rw [rounds_succ]
  go_wp2_with fail
  refine (L1.out _ hM).mono ?_
  rintro _ w1 ⟨rfl, rfl⟩
  go_wp2
  go_ret3
  exact ⟨rfl, rfl⟩
theorem itoa_any (n : Int) (h : Wd.I64 n) (w : World) (hG : Glb w) :
    Calls Tryz.prog 50 #[.int .i64 n] w fun e w' => e = .returned (.string ⟨(Lib.itoa n).toArray⟩) ∧ Below w.heap.size w w' := by
  unfold Wd.I64 at h
  refine (Any.strconv_Itoa Tryz.laysM171 n h.1 h.2 w hG.pow).mono ?_
  rintro _ w' ⟨rfl, k, os, rfl⟩
  exact ⟨rfl, Lib.below_grow w.heap.size w (Nat.le_refl _) k os⟩
set_option maxRecDepth 100000 in
theorem repeat0 (s : ByteArray) (w : World) : Calls Tryz.prog 51 #[.string s, .int .i64 0] w fun e w' => e = .returned (.string ⟨#[]⟩) ∧ w' = w := by
  go_enter Tryz.func51, Tryz.ntmps51
  go_wp2
  go_ret
  exact ⟨rfl, rfl⟩
set_option maxRecDepth 100000 in
theorem repeat1 (s : ByteArray) (w : World) : Calls Tryz.prog 51 #[.string s, .int .i64 1] w fun e w' => e = .returned (.string s) ∧ w' = w := by
  go_enter Tryz.func51, Tryz.ntmps51
  go_wp2
  go_ret
  exact ⟨rfl, rfl⟩
theorem pad_2000 (w : World) (hG : Glb w) : Calls Tryz.prog 41 #[.int .i64 2000, .int .i64 4] w fun e w' => e = .returned (.string ⟨#[50, 48, 48, 48]⟩) ∧ Below w.heap.size w w' := by
  have I := Lib.hid (itoa_any 2000 (by unfold Wd.I64; omega))
  rw [show Lib.itoa 2000 = [50, 48, 48, 48] by decide +kernel] at I
  go_enter Tryz.func41, Tryz.ntmps41
  go_wp2_with fail
  refine (I.out _ hG).mono ?_
  rintro _ w1 ⟨rfl, hb⟩
  go_wp2_with fail
  refine (repeat0 _ _).mono ?_
  rintro _ w2 ⟨rfl, rfl⟩
  go_wp2
  go_ret
  exact ⟨ret_str (by decide), hb⟩
theorem pad_2 (w : World) (hG : Glb w) : Calls Tryz.prog 41 #[.int .i64 2, .int .i64 2] w fun e w' => e = .returned (.string ⟨#[48, 50]⟩) ∧ Below w.heap.size w w' := by
  have I := Lib.hid (itoa_any 2 (by unfold Wd.I64; omega))
  rw [show Lib.itoa 2 = [50] by decide +kernel] at I
  go_enter Tryz.func41, Tryz.ntmps41
  go_wp2_with fail
  refine (I.out _ hG).mono ?_
  rintro _ w1 ⟨rfl, hb⟩
  go_wp2_with fail
  refine (repeat1 _ _).mono ?_
  rintro _ w2 ⟨rfl, rfl⟩
  go_wp2
  go_ret
  exact ⟨ret_str (by decide), hb⟩
theorem pad_29 (w : World) (hG : Glb w) : Calls Tryz.prog 41 #[.int .i64 29, .int .i64 2] w fun e w' => e = .returned (.string ⟨#[50, 57]⟩) ∧ Below w.heap.size w w' := by
  have I := Lib.hid (itoa_any 29 (by unfold Wd.I64; omega))
  rw [show Lib.itoa 29 = [50, 57] by decide +kernel] at I
  go_enter Tryz.func41, Tryz.ntmps41
  go_wp2_with fail
  refine (I.out _ hG).mono ?_
  rintro _ w1 ⟨rfl, hb⟩
  go_wp2_with fail
  refine (repeat0 _ _).mono ?_
  rintro _ w2 ⟨rfl, rfl⟩
  go_wp2
  go_ret
  exact ⟨ret_str (by decide), hb⟩
theorem day_text (w : World) (hM : Glb5 w) : Calls Tryz.prog 33 #[.int .i32 11016] w fun e w' => e = .returned (.string ⟨#[50, 48, 48, 48, 45, 48, 50, 45, 50, 57]⟩) ∧ Below w.heap.size w w' := by
  go_enter Tryz.func33, Tryz.ntmps33
  go_wp2_with fail
  refine (date_2000 _ hM).mono ?_
  rintro _ w1 ⟨rfl, rfl⟩
  go_wp2_with fail
  refine (pad_2000 _ hM.glb).mono ?_
  rintro _ w1 ⟨rfl, hb1⟩
  go_wp2_with fail
  refine (pad_2 _ (hM.glb.below hb1)).mono ?_
  rintro _ w2 ⟨rfl, hb2⟩
  have hB2 := below_then hb1 hb2
  go_wp2_with fail
  refine (pad_29 _ (hM.glb.below hB2)).mono ?_
  rintro _ w3 ⟨rfl, hb3⟩
  go_wp2
  go_ret
  exact ⟨ret_str (by decide), below_then hB2 hb3⟩
set_option maxHeartbeats 1000000 in
theorem awake4 (w : World) (hM : Glb5 w) : Calls Tryz.prog 23 #[] w fun e w' => e = .returned (.bool true) ∧ Below w.heap.size w w' := by
  go_enter Tryz.func23, Tryz.ntmps23
  go_wp2_with fail
  refine (of_1970 _ hM).mono ?_
  rintro _ w1 ⟨rfl, rfl⟩
  go_wp2_with fail
  refine (of_2000 _ hM).mono ?_
  rintro _ w1 ⟨rfl, rfl⟩
  go_wp2_with fail
  refine (day_text _ hM).mono ?_
  rintro _ w2 ⟨rfl, hb2⟩
  go_wp2_with fail
  refine (awake3 _ (hM.glb.below hb2)).mono ?_
  rintro _ w3 ⟨rfl, hb3⟩
  go_wp2
  go_ret
  exact ⟨rfl, below_then hb2 hb3⟩
end Go.Proofs.YtahagfdjpldblaaGreatDoor
