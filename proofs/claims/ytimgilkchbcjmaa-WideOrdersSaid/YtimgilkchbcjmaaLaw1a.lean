/-
  The machine's side of the laws of layer 1 that use no array: each answers true.
-/
import Derived.Test.YtimgilkchbcjmaaWide
namespace Go.Proofs.Ytimgilkchbcjmaa
open Go.RowKit
set_option linter.unusedVariables false
set_option linter.unusedSimpArgs false

set_option maxHeartbeats 400000 in
theorem awake1 (w : World) :
    Calls Try.prog 11 #[] w fun e w' => e = .returned (.bool true) ∧ Below w.heap.size w w' := by
  have e1 : Wd.hi (-1 * 5) = -1 := by unfold Wd.hi wrap64; rfl
  have e2 : Wd.lo (-1 * 5) = 18446744073709551611 := by unfold Wd.lo; rfl
  have e3 : Wd.hi (-1) = -1 := by unfold Wd.hi wrap64; rfl
  have e4 : Wd.lo (-1) = 18446744073709551615 := by unfold Wd.lo; rfl
  go_enter Try.func11, Try.ntmps11
  go_wp2_with fail
  refine (mul_any (-1) 5 _ (by unfold Wd.I64; omega) (by unfold Wd.I64; omega)).mono ?_
  rintro e w1 ⟨rfl, hb1⟩
  rw [e1, e2]
  go_wp2_with fail
  refine (of_any (-1) (by unfold Wd.I64; omega) _).mono ?_
  rintro e w2 ⟨rfl, hb2⟩
  rw [e3, e4]
  go_wp2
  go_ret
  exact ⟨rfl, below_then hb1 hb2⟩


set_option maxHeartbeats 1600000 in
theorem wideBack_any (a b : Int) (w : World) (ha : Wd.I64 a) (hb : Wd.I64 b) :
    Calls Try.prog 10 #[.int .i64 a, .int .i64 b] w fun e w' => e = .returned (.bool true) ∧ Below w.heap.size w w' := by
  by_cases h0 : a < 0
  · go_enter Try.func10, Try.ntmps10
    go_wp2_with fail
    refine (awake1 _).mono ?_
    rintro e w1 ⟨rfl, hb1⟩
    go_wp2
    go_ret
    exact ⟨rfl, hb1⟩
  by_cases h1 : b < 1
  · have h0' : 0 ≤ a := by omega
    go_enter Try.func10, Try.ntmps10
    go_wp2_with fail
    refine (awake1 _).mono ?_
    rintro e w1 ⟨rfl, hb1⟩
    go_wp2
    go_ret
    exact ⟨rfl, hb1⟩
  have ha2 := ha.2
  have hb2 := hb.2
  obtain ⟨m, rfl⟩ := Int.eq_ofNat_of_zero_le (a := a) (by omega)
  obtain ⟨n, rfl⟩ := Int.eq_ofNat_of_zero_le (a := b) (by omega)
  have hn : 0 < n := by omega
  have hm : m < 18446744073709551616 := by omega
  have e1 : m * n / n = m := Nat.mul_div_cancel m hn
  have e2 : m * n % n = 0 := Nat.mul_mod_left m n
  have hlt : m * n < n * 18446744073709551616 := by rw [Nat.mul_comm]; exact Nat.mul_lt_mul_of_pos_left hm hn
  have hn1 : (1 : Int) ≤ (n : Int) := by omega
  have e3 : IntKind.u64.wrap (m : Int) = (m : Int) := by rw [IntKind.wrap_u64]; omega
  have K1 := Lib.hid e1
  have K2 := Lib.hid e2
  clear e1 e2
  go_enter Try.func10, Try.ntmps10
  go_wp2_with fail
  refine (awake1 _).mono ?_
  rintro e w1 ⟨rfl, hb1⟩
  go_wp2_with fail
  refine (mul_any (m : Int) (n : Int) _ ha hb).mono ?_
  rintro e w2 ⟨rfl, hb2⟩
  rw [← Int.natCast_mul]
  go_wp2_with fail
  refine (quo_any (m * n) n _ hn hlt (by omega)).mono ?_
  rintro e w3 ⟨rfl, hb3⟩
  rw [K1.out, K2.out]
  go_wp2
  go_ret
  exact ⟨rfl, below_then (below_then hb1 hb2) hb3⟩

theorem mul_as (a b c : Int) (h : a * b = c) (ha : Wd.I64 a) (hb : Wd.I64 b) (w : World) :
    Calls Try.prog 15 #[.int .i64 a, .int .i64 b] w fun e w' => e = .returned (.agg #[.int .i64 (Wd.hi c), .int .u64 (Wd.lo c)]) ∧ Below w.heap.size w w' := h ▸ mul_any a b w ha hb
theorem mul_zero (a : Int) (ha : Wd.I64 a) (w : World) :
    Calls Try.prog 15 #[.int .i64 a, .int .i64 0] w fun e w' => e = .returned (.agg #[.int .i64 0, .int .u64 0]) ∧ Below w.heap.size w w' := by
  have h := mul_as a 0 0 (by omega) ha (by unfold Wd.I64; omega) w
  rwa [show Wd.hi 0 = 0 from by unfold Wd.hi wrap64; rfl, show Wd.lo 0 = 0 from by unfold Wd.lo; rfl] at h
theorem add_as (a b c : Int) (h : a + b = c) (w : World) :
    Calls Try.prog 20 #[.agg #[.int .i64 (Wd.hi a), .int .u64 (Wd.lo a)], .agg #[.int .i64 (Wd.hi b), .int .u64 (Wd.lo b)]] w fun e w' => e = .returned (.agg #[.int .i64 (Wd.hi c), .int .u64 (Wd.lo c)]) ∧ Below w.heap.size w w' := h ▸ add_any a b w

set_option maxHeartbeats 4000000 in
theorem wideTurns_num (a b v x : Int) (w : World) (ha : Wd.I64 a) (hb : Wd.I64 b) :
    Calls Try.prog 4 #[.int .i64 a, .int .i64 b, .agg #[.int .i64 (Wd.hi v), .int .u64 (Wd.lo v)], .agg #[.int .i64 (Wd.hi x), .int .u64 (Wd.lo x)]] w fun e w' => e = .returned (.bool true) ∧ Below w.heap.size w w' := by
  go_enter Try.func4, Try.ntmps4
  go_wp2_with fail
  refine (awake1 _).mono ?_
  rintro e w1 ⟨rfl, hb1⟩
  have R0 := ((Row.new w #[.int .i64 (Wd.hi v), .int .u64 (Wd.lo v)] 28).alloc (.cells #[.int .i64 (Wd.hi x), .int .u64 (Wd.lo x)] 28)).below hb1
  have R1 := (Row.new' (w.alloc (.cells #[.int .i64 (Wd.hi v), .int .u64 (Wd.lo v)] 28)) #[.int .i64 (Wd.hi x), .int .u64 (Wd.lo x)] 28 (g := w.heap.size + 1) (by simp)).below hb1
  have hB := below_then (below_alloc (below_alloc (Below.refl w.heap.size w) _) _) hb1
  have c0 : w1.cell? ⟨w.heap.size, 0, none⟩ = some (.int .i64 (Wd.hi v)) := R0.cell 0
  have c1 : w1.cell? ⟨w.heap.size, 1, none⟩ = some (.int .u64 (Wd.lo v)) := R0.cell 1
  have c2 : w1.cell? ⟨w.heap.size + 1, 0, none⟩ = some (.int .i64 (Wd.hi x)) := R1.cell 0
  have c3 : w1.cell? ⟨w.heap.size + 1, 1, none⟩ = some (.int .u64 (Wd.lo x)) := R1.cell 1
  clear hb1 R0 R1
  go_wp2_with fail
  go_region_held3 (fun w' => Below w.heap.size w w' ∧ w'.cell? ⟨w.heap.size, 0, none⟩ = some (.int .i64 (Wd.hi v)) ∧ w'.cell? ⟨w.heap.size, 1, none⟩ = some (.int .u64 (Wd.lo v)) ∧ w'.cell? ⟨w.heap.size + 1, 0, none⟩ = some (.int .i64 (Wd.hi x)) ∧ w'.cell? ⟨w.heap.size + 1, 1, none⟩ = some (.int .u64 (Wd.lo x))) (refine ⟨?_, ?_, ?_, ?_, ?_⟩ <;> first | assumption | exact hB.drew | simp [go_sem, *]) (first | (go_at_call 15; rename_i hHeld _ _; ((with_reducible refine (mul_any a b _ ha hb).mono ?_)); rintro e wx ⟨rfl, hb⟩; have HB := below_then hHeld.1 hb; have HC1 := cell_then hHeld.2.1 hb; have HC2 := cell_then hHeld.2.2.1 hb; have HC3 := cell_then hHeld.2.2.2.1 hb; have HC4 := cell_then hHeld.2.2.2.2 hb; clear hb hHeld) | (go_at_call 15; rename_i hHeld _ _; ((with_reducible refine (mul_as b a (a * b) (Int.mul_comm _ _) hb ha _).mono ?_)); rintro e wx ⟨rfl, hb⟩; have HB := below_then hHeld.1 hb; have HC1 := cell_then hHeld.2.1 hb; have HC2 := cell_then hHeld.2.2.1 hb; have HC3 := cell_then hHeld.2.2.2.1 hb; have HC4 := cell_then hHeld.2.2.2.2 hb; clear hb hHeld) | (go_at_call 15; rename_i hHeld _ _; ((with_reducible refine (mul_as a (-1) (-a) (by omega) ha (by unfold Wd.I64; omega) _).mono ?_)); rintro e wx ⟨rfl, hb⟩; have HB := below_then hHeld.1 hb; have HC1 := cell_then hHeld.2.1 hb; have HC2 := cell_then hHeld.2.2.1 hb; have HC3 := cell_then hHeld.2.2.2.1 hb; have HC4 := cell_then hHeld.2.2.2.2 hb; clear hb hHeld) | (go_at_call 15; rename_i hHeld _ _; ((with_reducible refine (mul_zero a ha _).mono ?_)); rintro e wx ⟨rfl, hb⟩; have HB := below_then hHeld.1 hb; have HC1 := cell_then hHeld.2.1 hb; have HC2 := cell_then hHeld.2.2.1 hb; have HC3 := cell_then hHeld.2.2.2.1 hb; have HC4 := cell_then hHeld.2.2.2.2 hb; clear hb hHeld) | (go_at_call 20; rename_i hHeld _ _; ((with_reducible refine (add_any v x _).mono ?_)); rintro e wx ⟨rfl, hb⟩; have HB := below_then hHeld.1 hb; have HC1 := cell_then hHeld.2.1 hb; have HC2 := cell_then hHeld.2.2.1 hb; have HC3 := cell_then hHeld.2.2.2.1 hb; have HC4 := cell_then hHeld.2.2.2.2 hb; clear hb hHeld) | (go_at_call 20; rename_i hHeld _ _; ((with_reducible refine (add_as x v (v + x) (Int.add_comm _ _) _).mono ?_)); rintro e wx ⟨rfl, hb⟩; have HB := below_then hHeld.1 hb; have HC1 := cell_then hHeld.2.1 hb; have HC2 := cell_then hHeld.2.2.1 hb; have HC3 := cell_then hHeld.2.2.2.1 hb; have HC4 := cell_then hHeld.2.2.2.2 hb; clear hb hHeld) | (go_at_call 18; rename_i hHeld _ _; ((with_reducible refine (of_any a ha _).mono ?_)); rintro e wx ⟨rfl, hb⟩; have HB := below_then hHeld.1 hb; have HC1 := cell_then hHeld.2.1 hb; have HC2 := cell_then hHeld.2.2.1 hb; have HC3 := cell_then hHeld.2.2.2.1 hb; have HC4 := cell_then hHeld.2.2.2.2 hb; clear hb hHeld) | (go_at_call 21; rename_i hHeld _ _; ((with_reducible refine (neg_any a _).mono ?_)); rintro e wx ⟨rfl, hb⟩; have HB := below_then hHeld.1 hb; have HC1 := cell_then hHeld.2.1 hb; have HC2 := cell_then hHeld.2.2.1 hb; have HC3 := cell_then hHeld.2.2.2.1 hb; have HC4 := cell_then hHeld.2.2.2.2 hb; clear hb hHeld))
  go_wp2
  go_ret
  exact ⟨rfl, by assumption⟩
theorem wideTurns_any (a b vh vl xh xl : Int) (w : World) (ha : Wd.I64 a) (hb : Wd.I64 b) (hv : Wd.I64 vh) (hv' : Wd.U64 vl) (hx : Wd.I64 xh) (hx' : Wd.U64 xl) :
    Calls Try.prog 4 #[.int .i64 a, .int .i64 b, .agg #[.int .i64 vh, .int .u64 vl], .agg #[.int .i64 xh, .int .u64 xl]] w fun e w' => e = .returned (.bool true) ∧ Below w.heap.size w w' := by
  have h := wideTurns_num a b (Wd.num vh vl) (Wd.num xh xl) w ha hb
  rwa [Wd.hi_num _ _ hv hv', Wd.lo_num _ _ hv', Wd.hi_num _ _ hx hx', Wd.lo_num _ _ hx'] at h

end Go.Proofs.Ytimgilkchbcjmaa
