/-
  The machine's side of the laws of layer 1 that use no array: each answers true.
-/
import Derived.Test.YtimgilkchbcjmaaWide
namespace Go.Proofs.Ytimgilkchbcjmaa
open Go.RowKit
set_option linter.unusedVariables false
set_option linter.unusedSimpArgs false

set_option maxHeartbeats 400000 in
theorem awake1 (w : World) :
    Calls Try.prog 11 #[] w fun e w' => e = .returned (.bool true) ∧ Below w.heap.size w w' := by
  have e1 : Wd.hi (-1 * 5) = -1 := by unfold Wd.hi wrap64; rfl
  have e2 : Wd.lo (-1 * 5) = 18446744073709551611 := by unfold Wd.lo; rfl
  have e3 : Wd.hi (-1) = -1 := by unfold Wd.hi wrap64; rfl
  have e4 : Wd.lo (-1) = 18446744073709551615 := by unfold Wd.lo; rfl
  go_enter Try.func11, Try.ntmps11
  go_wp2_with fail
  refine (mul_any (-1) 5 _ (by unfold Wd.I64; omega) (by unfold Wd.I64; omega)).mono ?_
  rintro e w1 ⟨rfl, hb1⟩
  rw [e1, e2]
  go_wp2_with fail
  refine (of_any (-1) (by unfold Wd.I64; omega) _).mono ?_
  rintro e w2 ⟨rfl, hb2⟩
  rw [e3, e4]
  go_wp2
  go_ret
  exact ⟨rfl, below_then hb1 hb2⟩


set_option maxHeartbeats 1600000 in
theorem wideBack_any (a b : Int) (w : World) (ha : Wd.I64 a) (hb : Wd.I64 b) :
    Calls Try.prog 10 #[.int .i64 a, .int .i64 b] w fun e w' => e = .returned (.bool true) ∧ Below w.heap.size w w' := by
  by_cases h0 : a < 0
  · go_enter Try.func10, Try.ntmps10
    go_wp2_with fail
    refine (awake1 _).mono ?_
    rintro e w1 ⟨rfl, hb1⟩
    go_wp2
    go_ret
    exact ⟨rfl, hb1⟩
  by_cases h1 : b < 1
  · have h0' : 0 ≤ a := by omega
    go_enter Try.func10, Try.ntmps10
    go_wp2_with fail
    refine (awake1 _).mono ?_
    rintro e w1 ⟨rfl, hb1⟩
    go_wp2
    go_ret
    exact ⟨rfl, hb1⟩
  have ha2 := ha.2
  have hb2 := hb.2
  obtain ⟨m, rfl⟩ := Int.eq_ofNat_of_zero_le (a := a) (by omega)
  obtain ⟨n, rfl⟩ := Int.eq_ofNat_of_zero_le (a := b) (by omega)
  have hn : 0 < n := by omega
  have hm : m < 18446744073709551616 := by omega
  have e1 : m * n / n = m := Nat.mul_div_cancel m hn
  have e2 : m * n % n = 0 := Nat.mul_mod_left m n
  have hlt : m * n < n * 18446744073709551616 := by rw [Nat.mul_comm]; exact Nat.mul_lt_mul_of_pos_left hm hn
  have hn1 : (1 : Int) ≤ (n : Int) := by omega
  have e3 : IntKind.u64.wrap (m : Int) = (m : Int) := by rw [IntKind.wrap_u64]; omega
  have K1 := Lib.hid e1
  have K2 := Lib.hid e2
  clear e1 e2
  go_enter Try.func10, Try.ntmps10
  go_wp2_with fail
  refine (awake1 _).mono ?_
  rintro e w1 ⟨rfl, hb1⟩
  go_wp2_with fail
  refine (mul_any (m : Int) (n : Int) _ ha hb).mono ?_
  rintro e w2 ⟨rfl, hb2⟩
  rw [← Int.natCast_mul]
  go_wp2_with fail
  refine (quo_any (m * n) n _ hn hlt (by omega)).mono ?_
  rintro e w3 ⟨rfl, hb3⟩
  rw [K1.out, K2.out]
  go_wp2
  go_ret
  exact ⟨rfl, below_then (below_then hb1 hb2) hb3⟩

end Go.Proofs.Ytimgilkchbcjmaa
