/-
  The machine's side of the law WideRing: it answers true.
-/
import Derived.Test.YtimgilkchbcjmaaLaw1a
namespace Go.Proofs.Ytimgilkchbcjmaa
open Go.RowKit
set_option linter.unusedVariables false
set_option linter.unusedSimpArgs false

theorem neg_as (a b : Int) (h : -a = b) (w : World) :
    Calls Try.prog 21 #[.agg #[.int .i64 (Wd.hi a), .int .u64 (Wd.lo a)]] w fun e w' => e = .returned (.agg #[.int .i64 (Wd.hi b), .int .u64 (Wd.lo b)]) ∧ Below w.heap.size w w' := h ▸ neg_any a w
theorem sub_as (a b c : Int) (h : a - b = c) (w : World) :
    Calls Try.prog 23 #[.agg #[.int .i64 (Wd.hi a), .int .u64 (Wd.lo a)], .agg #[.int .i64 (Wd.hi b), .int .u64 (Wd.lo b)]] w fun e w' => e = .returned (.agg #[.int .i64 (Wd.hi c), .int .u64 (Wd.lo c)]) ∧ Below w.heap.size w w' := h ▸ sub_any a b w
theorem sub_self' (a : Int) (w : World) :
    Calls Try.prog 23 #[.agg #[.int .i64 (Wd.hi a), .int .u64 (Wd.lo a)], .agg #[.int .i64 (Wd.hi a), .int .u64 (Wd.lo a)]] w fun e w' => e = .returned (.agg #[.int .i64 0, .int .u64 0]) ∧ Below w.heap.size w w' := by
  have h := sub_as a a 0 (by omega) w
  rwa [show Wd.hi 0 = 0 from by unfold Wd.hi wrap64; rfl, show Wd.lo 0 = 0 from by unfold Wd.lo; rfl] at h
theorem prod32 (a b : Int) (ha : -2147483648 ≤ a ∧ a ≤ 2147483647) (hb : -2147483648 ≤ b ∧ b ≤ 2147483647) : -4611686018427387904 ≤ a * b ∧ a * b ≤ 4611686018427387904 := by
  have h1 := Int.mul_nonneg (show (0 : Int) ≤ 2147483648 + a by omega) (show (0 : Int) ≤ 2147483648 + b by omega)
  have h2 := Int.mul_nonneg (show (0 : Int) ≤ 2147483648 - a by omega) (show (0 : Int) ≤ 2147483648 - b by omega)
  have h3 := Int.mul_nonneg (show (0 : Int) ≤ 2147483648 + a by omega) (show (0 : Int) ≤ 2147483648 - b by omega)
  have h4 := Int.mul_nonneg (show (0 : Int) ≤ 2147483648 - a by omega) (show (0 : Int) ≤ 2147483648 + b by omega)
  simp only [Int.add_mul, Int.mul_add, Int.sub_mul, Int.mul_sub] at h1 h2 h3 h4
  omega

set_option maxHeartbeats 8000000 in
theorem wideRing_num (a b c v : Int) (w : World) (ha : -2147483648 ≤ a ∧ a ≤ 2147483647) (hb : -2147483648 ≤ b ∧ b ≤ 2147483647) (hc : -2147483648 ≤ c ∧ c ≤ 2147483647) :
    Calls Try.prog 6 #[.int .i32 a, .int .i32 b, .int .i32 c, .agg #[.int .i64 (Wd.hi v), .int .u64 (Wd.lo v)]] w fun e w' => e = .returned (.bool true) ∧ Below w.heap.size w w' := by
  have hp := prod32 a b ha hb
  have ia : Wd.I64 a := by unfold Wd.I64; omega
  have ib : Wd.I64 b := by unfold Wd.I64; omega
  have ic : Wd.I64 c := by unfold Wd.I64; omega
  have iab : Wd.I64 (a + b) := by unfold Wd.I64; omega
  have ip : Wd.I64 (a * b) := by unfold Wd.I64; omega
  go_enter Try.func6, Try.ntmps6
  go_wp2_with fail
  refine (awake1 _).mono ?_
  rintro e w1 ⟨rfl, hb1⟩
  have R0 := (Row.new w #[.int .i64 (Wd.hi v), .int .u64 (Wd.lo v)] 28).below hb1
  have hB := below_then (below_alloc (Below.refl w.heap.size w) _) hb1
  have c0 : w1.cell? ⟨w.heap.size, 0, none⟩ = some (.int .i64 (Wd.hi v)) := R0.cell 0
  have c1 : w1.cell? ⟨w.heap.size, 1, none⟩ = some (.int .u64 (Wd.lo v)) := R0.cell 1
  clear hb1 R0
  go_wp2_with fail
  have e1 : IntKind.i64.wrap (a + b) = a + b := by rw [IntKind.wrap_i64]; omega
  have e2 : IntKind.i64.wrap (a * b) = a * b := by rw [IntKind.wrap_i64]; omega
  go_region_held3 (fun w' => Below w.heap.size w w' ∧ w'.cell? ⟨w.heap.size, 0, none⟩ = some (.int .i64 (Wd.hi v)) ∧ w'.cell? ⟨w.heap.size, 1, none⟩ = some (.int .u64 (Wd.lo v))) (refine ⟨?_, ?_, ?_⟩ <;> first | assumption | exact hB.drew | simp [go_sem, *]) (first | (go_at_call 15; rename_i hHeld _ _; ((with_reducible refine (mul_any (a + b) c _ iab ic).mono ?_)); rintro e wx ⟨rfl, hb⟩; have HB := below_then hHeld.1 hb; have HC1 := cell_then hHeld.2.1 hb; have HC2 := cell_then hHeld.2.2 hb; clear hb hHeld) | (go_at_call 15; rename_i hHeld _ _; ((with_reducible refine (mul_any a c _ ia ic).mono ?_)); rintro e wx ⟨rfl, hb⟩; have HB := below_then hHeld.1 hb; have HC1 := cell_then hHeld.2.1 hb; have HC2 := cell_then hHeld.2.2 hb; clear hb hHeld) | (go_at_call 15; rename_i hHeld _ _; ((with_reducible refine (mul_any b c _ ib ic).mono ?_)); rintro e wx ⟨rfl, hb⟩; have HB := below_then hHeld.1 hb; have HC1 := cell_then hHeld.2.1 hb; have HC2 := cell_then hHeld.2.2 hb; clear hb hHeld) | (go_at_call 15; rename_i hHeld _ _; ((with_reducible refine (mul_any a b _ ia ib).mono ?_)); rintro e wx ⟨rfl, hb⟩; have HB := below_then hHeld.1 hb; have HC1 := cell_then hHeld.2.1 hb; have HC2 := cell_then hHeld.2.2 hb; clear hb hHeld) | (go_at_call 18; rename_i hHeld _ _; ((with_reducible refine (of_any a ia _).mono ?_)); rintro e wx ⟨rfl, hb⟩; have HB := below_then hHeld.1 hb; have HC1 := cell_then hHeld.2.1 hb; have HC2 := cell_then hHeld.2.2 hb; clear hb hHeld) | (go_at_call 18; rename_i hHeld _ _; ((with_reducible refine (of_any (a * b) ip _).mono ?_)); rintro e wx ⟨rfl, hb⟩; have HB := below_then hHeld.1 hb; have HC1 := cell_then hHeld.2.1 hb; have HC2 := cell_then hHeld.2.2 hb; clear hb hHeld) | (go_at_call 23; rename_i hHeld _ _; ((with_reducible refine (sub_self' v _).mono ?_)); rintro e wx ⟨rfl, hb⟩; have HB := below_then hHeld.1 hb; have HC1 := cell_then hHeld.2.1 hb; have HC2 := cell_then hHeld.2.2 hb; clear hb hHeld) | (go_at_call 23; rename_i hHeld _ _; ((with_reducible refine (sub_as v (-a) (v + a) (by omega) _).mono ?_)); rintro e wx ⟨rfl, hb⟩; have HB := below_then hHeld.1 hb; have HC1 := cell_then hHeld.2.1 hb; have HC2 := cell_then hHeld.2.2 hb; clear hb hHeld) | (go_at_call 21; rename_i hHeld _ _; ((with_reducible refine (neg_any v _).mono ?_)); rintro e wx ⟨rfl, hb⟩; have HB := below_then hHeld.1 hb; have HC1 := cell_then hHeld.2.1 hb; have HC2 := cell_then hHeld.2.2 hb; clear hb hHeld) | (go_at_call 21; rename_i hHeld _ _; ((with_reducible refine (neg_as (-v) v (Int.neg_neg v) _).mono ?_)); rintro e wx ⟨rfl, hb⟩; have HB := below_then hHeld.1 hb; have HC1 := cell_then hHeld.2.1 hb; have HC2 := cell_then hHeld.2.2 hb; clear hb hHeld) | (go_at_call 21; rename_i hHeld _ _; ((with_reducible refine (neg_any a _).mono ?_)); rintro e wx ⟨rfl, hb⟩; have HB := below_then hHeld.1 hb; have HC1 := cell_then hHeld.2.1 hb; have HC2 := cell_then hHeld.2.2 hb; clear hb hHeld) | (go_at_call 20; rename_i hHeld _ _; ((with_reducible refine (add_as (a * c) (b * c) ((a + b) * c) (Int.add_mul a b c).symm _).mono ?_)); rintro e wx ⟨rfl, hb⟩; have HB := below_then hHeld.1 hb; have HC1 := cell_then hHeld.2.1 hb; have HC2 := cell_then hHeld.2.2 hb; clear hb hHeld) | (go_at_call 20; rename_i hHeld _ _; ((with_reducible refine (add_any v a _).mono ?_)); rintro e wx ⟨rfl, hb⟩; have HB := below_then hHeld.1 hb; have HC1 := cell_then hHeld.2.1 hb; have HC2 := cell_then hHeld.2.2 hb; clear hb hHeld))
  go_wp2
  go_ret
  exact ⟨rfl, by assumption⟩
theorem wideRing_any (a b c vh vl : Int) (w : World) (ha : -2147483648 ≤ a ∧ a ≤ 2147483647) (hb : -2147483648 ≤ b ∧ b ≤ 2147483647) (hc : -2147483648 ≤ c ∧ c ≤ 2147483647) (hv : Wd.I64 vh) (hv' : Wd.U64 vl) :
    Calls Try.prog 6 #[.int .i32 a, .int .i32 b, .int .i32 c, .agg #[.int .i64 vh, .int .u64 vl]] w fun e w' => e = .returned (.bool true) ∧ Below w.heap.size w w' := by
  have h := wideRing_num a b c (Wd.num vh vl) w ha hb hc
  rwa [Wd.hi_num _ _ hv hv', Wd.lo_num _ _ hv'] at h

end Go.Proofs.Ytimgilkchbcjmaa
