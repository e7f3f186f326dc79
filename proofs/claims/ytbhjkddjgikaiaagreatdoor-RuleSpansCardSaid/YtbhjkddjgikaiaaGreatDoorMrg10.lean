/-
  Own texts, several in one (Awake1, Awake2, Awake3).
-/
import Derived.Test.YtbhjkddjgikaiaaGreatDoorMrg2
import Derived.Test.YtbhjkddjgikaiaaGreatDoorMrg9
namespace Go.Proofs.YtbhjkddjgikaiaaGreatDoor
open Go.RowKit
set_option linter.unusedVariables false
set_option linter.unusedSimpArgs false

set_option maxHeartbeats 400000 in
theorem awake1 (w : World) :
    Calls Tryz.prog 291 #[] w fun e w' => e = .returned (.bool true) ∧ Below w.heap.size w w' := by
  have e1 : Wd.hi (-1 * 5) = -1 := by unfold Wd.hi wrap64; rfl
  have e2 : Wd.lo (-1 * 5) = 18446744073709551611 := by unfold Wd.lo; rfl
  have e3 : Wd.hi (-1) = -1 := by unfold Wd.hi wrap64; rfl
  have e4 : Wd.lo (-1) = 18446744073709551615 := by unfold Wd.lo; rfl
  go_enter Tryz.func291, Tryz.ntmps291
  go_wp2_with fail
  refine (mul_any (-1) 5 _ (by unfold Wd.I64; omega) (by unfold Wd.I64; omega)).mono ?_
  rintro e w1 ⟨rfl, hb1⟩
  rw [e1, e2]
  go_wp2_with fail
  refine (of_any (-1) (by unfold Wd.I64; omega) _).mono ?_
  rintro e w2 ⟨rfl, hb2⟩
  rw [e3, e4]
  go_wp2
  go_ret
  exact ⟨rfl, below_then hb1 hb2⟩


end Go.Proofs.YtbhjkddjgikaiaaGreatDoor

namespace Go.Proofs.YtbhjkddjgikaiaaGreatDoor
open Go.RowKit
set_option linter.unusedVariables false
set_option linter.unusedSimpArgs false

theorem text_m5 : Mn.text (-5) = [45, 48, 46, 48, 53] := by decide +kernel
theorem parse_m5 : Mn.parse [45, 48, 46, 48, 53] = some (-5) := by rw [← text_m5]; exact Mn.parse_text (-5) (by omega)

set_option maxHeartbeats 400000 in
theorem awake2 (w : World) (hG : Glb w) :
    Calls Tryz.prog 284 #[] w fun e w' => e = .returned (.bool true) ∧ Below w.heap.size w w' := by
  have hp := Lib.hid (fun w hG => parse_any ⟨#[45, 48, 46, 48, 53]⟩ (by decide) w hG)
  rw [show ((⟨#[45, 48, 46, 48, 53]⟩ : ByteArray).data.toList) = [45, 48, 46, 48, 53] from rfl, parse_m5] at hp
  have ht := Lib.hid (text_any (-5) (by unfold Wd.I64; omega))
  rw [text_m5] at ht
  go_enter Tryz.func284, Tryz.ntmps284
  go_wp2_with fail
  refine (hp.out _ hG).mono ?_
  rintro _ w1 ⟨rfl, hb1⟩
  unfold Mn.end_
  go_wp2_with fail
  refine (ht.out _ (hG.below hb1)).mono ?_
  rintro _ w2 ⟨rfl, hb2⟩
  have hB2 := below_then hb1 hb2
  go_wp2_with fail
  refine (awake1 _).mono ?_
  rintro _ w3 ⟨rfl, hb3⟩
  go_wp2
  go_ret
  exact ⟨rfl, below_then hB2 hb3⟩
end Go.Proofs.YtbhjkddjgikaiaaGreatDoor

namespace Go.Proofs.YtbhjkddjgikaiaaGreatDoor
open Go.RowKit
set_option linter.unusedVariables false
set_option linter.unusedSimpArgs false

theorem allot_getD (a : Int) (ws : List Nat) (i : Nat) : (Sh.allot a ws).getD i 0 = if a < 0 then -(((Sh.sizes a.natAbs ws).getD i 0 : Nat) : Int) else (((Sh.sizes a.natAbs ws).getD i 0 : Nat) : Int) := by
  unfold Sh.allot
  rw [List.getD_eq_getElem?_getD, List.getElem?_map, List.getD_eq_getElem?_getD]
  cases (Sh.sizes a.natAbs ws)[i]? <;> simp
theorem mem_getD {l : List Int} {z : Int} (h : z ∈ l) : ∃ i, i < l.length ∧ l.getD i 0 = z := by
  obtain ⟨i, hi, e⟩ := List.mem_iff_getElem.1 h
  exact ⟨i, hi, by rw [List.getD_eq_getElem?_getD, List.getElem?_eq_getElem hi]; exact e⟩
theorem allot_I64 (a : Int) (ws : List Nat) (hI : Wd.I64 a) (hT : 0 < ws.sum) : ∀ z ∈ Sh.allot a ws, Wd.I64 z := by
  intro z hz
  obtain ⟨i, hi, rfl⟩ := mem_getD hz
  rw [allot_getD]
  have := Sh.sizes_le a.natAbs ws hT i
  unfold Wd.I64 at *
  split <;> omega
theorem allot_nums (a : Int) (p : Option Addr) (n cap : Nat) (ws : List Nat) (w : World) (hI : Wd.I64 a) (hn : IsNums w p n (ni ws)) (h1 : 1 ≤ n) (h8 : n ≤ 8) (hw : ∀ i, i < n → 1 ≤ ws.getD i 0 ∧ ws.getD i 0 ≤ 1000000) :
    Calls Tryz.prog 282 #[.int .i64 a, .slice p n cap] w fun e w' => ∃ q k, e = .returned (.tuple #[.slice q n k, .int .i64 0]) ∧ IsNums w' q n (Sh.allot a ws) ∧ Below w.heap.size w w' := by
  obtain ⟨hl, _, hn⟩ := hn
  have hl2 : ws.length = n := by simpa [ni] using hl
  rcases hn with h | ⟨b, off, rfl, hn⟩
  · omega
  · refine (allot_ok a b off n cap ws w hI hn hl2 h1 h8 hw).mono ?_
    rintro _ w' ⟨v, rfl, hown, hb⟩
    have hT : 0 < ws.sum := by
      have h := hw 0 (by omega)
      have := Sh.getD_le_sum ws 0
      omega
    obtain ⟨q, k, rfl, hN⟩ := nums_of_own hown (allot_I64 a ws hI hT)
    exact ⟨q, k, rfl, hN, hb⟩
theorem nums_lit {w : World} {b : Nat} {zs : List Int} {t : TypeId} (h : Row w b (iv zs).toArray t) (hz : ∀ z ∈ zs, Wd.I64 z) : IsNums w (some ⟨b, 0, none⟩) zs.length zs := by
  refine ⟨rfl, hz, .inr ⟨b, 0, rfl, fun i hi => ?_⟩⟩
  rw [Nat.zero_add, h.cell i]
  unfold iv
  simp [hi, List.getD_eq_getElem?_getD]

theorem i111 : ∀ z ∈ ni [1, 1, 1], Wd.I64 z := by
  intro z hz
  simp [ni] at hz
  subst hz
  unfold Wd.I64
  omega
theorem i433 : ∀ z ∈ [(4 : Int), 3, 3], Wd.I64 z := by
  intro z hz
  simp at hz
  unfold Wd.I64
  omega
theorem w111 : ∀ i, i < 3 → 1 ≤ [1, 1, 1].getD i 0 ∧ [1, 1, 1].getD i 0 ≤ 1000000 := by
  intro i hi
  obtain rfl | rfl | rfl : i = 0 ∨ i = 1 ∨ i = 2 := by omega
  all_goals exact ⟨by decide, by decide⟩

set_option maxHeartbeats 1000000 in
theorem awake3 (w : World) (hG : Glb w) :
    Calls Tryz.prog 281 #[] w fun e w' => e = .returned (.bool true) ∧ Below w.heap.size w w' := by
  have r3 : Sh.allot 10 [1, 1, 1] = [4, 3, 3] := by decide +kernel
  go_enter Tryz.func281, Tryz.ntmps281
  go_wp2_with fail
  have N1 : IsNums (w.alloc (.cells (iv [1, 1, 1]).toArray 2)) (some ⟨w.heap.size, 0, none⟩) 3 (ni [1, 1, 1]) := nums_lit (Row.new w _ _) i111
  refine (allot_nums 10 _ 3 3 [1, 1, 1] _ (by unfold Wd.I64; omega) N1 (by omega) (by omega) w111).mono ?_
  rintro _ w1 ⟨q, k, rfl, hN, hb⟩
  have hB1 := below_then ((Below.refl _ w).alloc (Nat.le_refl _) _) hb
  rw [r3] at hN
  go_wp2_with fail
  have N2 : IsNums (w1.alloc (.cells (iv [4, 3, 3]).toArray 2)) (some ⟨w1.heap.size, 0, none⟩) 3 [4, 3, 3] := nums_lit (Row.new w1 _ _) i433
  refine (equal_nums q _ k 3 3 [4, 3, 3] _ (hN.below ((Below.refl _ w1).alloc (Nat.le_refl _) _)) N2 (by omega)).mono ?_
  rintro _ w2 ⟨rfl, hb2⟩
  have hB2 := below_then (below_alloc hB1 _) hb2
  go_wp2_with fail
  refine (awake2 _ (hG.below hB2)).mono ?_
  rintro _ w3 ⟨rfl, hb3⟩
  go_wp2
  go_ret
  exact ⟨rfl, below_then hB2 hb3⟩
end Go.Proofs.YtbhjkddjgikaiaaGreatDoor
