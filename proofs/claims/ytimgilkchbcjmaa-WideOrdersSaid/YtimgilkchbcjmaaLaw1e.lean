/-
  The machine's side of the law WideMuls: it answers true.
-/
import Derived.Test.YtimgilkchbcjmaaLaw1d
import Derived.Test.YtimgilkchbcjmaaRef01
namespace Go.Proofs.Ytimgilkchbcjmaa
open Go.RowKit
set_option linter.unusedVariables false
set_option linter.unusedSimpArgs false

theorem range_then {W w' : World} {g : Nat} {cs : List Value} (h : W.rangeAt g 0 cs) (h2 : Below W.heap.size W w') : w'.rangeAt g 0 cs := fun j v hv => cell_then (h j v hv) h2
theorem range_of {W : World} {g : Nat} {cs : Array Value} {t : TypeId} (R : Row W g cs t) : W.rangeAt g 0 cs.toList := fun j v hv => by
  rw [Nat.zero_add, R.cell j]; simpa using hv
theorem num_small (a : Int) (h : Wd.I64 a) : u128 (Wd.num (a / 9223372036854775808) (IntKind.u64.wrap a)) = u128 a := by
  unfold Wd.I64 at h; rw [IntKind.wrap_u64]; unfold u128 Wd.num
  have hc : a / 9223372036854775808 = 0 ∨ a / 9223372036854775808 = -1 := by omega
  rcases hc with e | e <;> rw [e] <;> omega
theorem u128_mul (a x : Int) (m : Nat) (h : (m : Int) % 340282366920938463463374607431768211456 = a % 340282366920938463463374607431768211456) (n : Nat) (hn : a * (n : Int) = x) : (m * n) % 2 ^ 128 = u128 x := by
  unfold u128
  rw [← hn, Int.mul_emod, ← h, ← Int.mul_emod]
  have : ((m * n : Nat) : Int) = (m : Int) * (n : Int) := by simp
  rw [← this]; omega
set_option maxHeartbeats 8000000 in
theorem wideMuls_pos (a b : Int) (w : World) (ha : Wd.I64 a) (hb : Wd.I64 b) (hn : 0 ≤ b) :
    Calls Try.prog 3 #[.int .i64 a, .int .i64 b] w fun e w' => e = .returned (.bool true) ∧ Below w.heap.size w w' := by
  have hb2 := hb
  unfold Wd.I64 at hb2
  obtain ⟨n, rfl⟩ := Int.eq_ofNat_of_zero_le hn
  have e0 : IntKind.u64.wrap (n : Int) = (n : Int) := by rw [IntKind.wrap_u64]; omega
  have bitsA : Hid (∀ w : World, Calls Try.prog 12 #[.agg #[.int .i64 (a / 9223372036854775808), .int .u64 (IntKind.u64.wrap a)]] w fun e w' => e = .returned (.agg (bv (u128 a))) ∧ Below w.heap.size w w') := Lib.hid fun w => by
    have h := lawBits_any (a / 9223372036854775808) (IntKind.u64.wrap a) (by unfold Wd.I64 at *; omega) (by unfold Wd.U64; rw [IntKind.wrap_u64]; omega) w
    rwa [num_small a ha] at h
  have refA : Hid (∀ w : World, Calls Try.prog 19 #[.int .i64 (a / 9223372036854775808), .int .u64 (IntKind.u64.wrap a)] w fun e w' => e = .returned (.agg (bv (u128 a))) ∧ Below w.heap.size w w') := Lib.hid fun w => by
    have h := refBits_any (a / 9223372036854775808) (IntKind.u64.wrap a) (by unfold Wd.I64 at *; omega) (by unfold Wd.U64; rw [IntKind.wrap_u64]; omega) w
    rwa [num_small a ha] at h
  have mulA : Hid (∀ w : World, Calls Try.prog 16 #[.agg (bv (u128 a)), .int .u64 (n : Int)] w fun e w' => e = .returned (.agg (bv (u128 a * n))) ∧ Below w.heap.size w w') := Lib.hid (refMul_any (u128 a) n (by omega))
  have is1 : Hid (∀ w : World, Calls Try.prog 14 #[.agg #[.int .i64 (Wd.hi (a * (n : Int))), .int .u64 (Wd.lo (a * (n : Int)))], .agg (bv (u128 a * n))] w fun e w' => e = .returned (.bool true) ∧ Below w.heap.size w w') := Lib.hid (is_at (a * (n : Int)) (u128 a * n) (u128_mul a _ (u128 a) (by unfold u128; omega) n rfl))
  have is2 : Hid (∀ w : World, Calls Try.prog 14 #[.agg #[.int .i64 (Wd.hi a), .int .u64 (Wd.lo a)], .agg (bv (u128 a))] w fun e w' => e = .returned (.bool true) ∧ Below w.heap.size w w') := Lib.hid (is_at a (u128 a) (Nat.mod_eq_of_lt (u128_lt a)))
  generalize u128 a = ua at *
  generalize hp : a * (n : Int) = p at *
  have mulB : Hid (∀ w : World, Calls Try.prog 15 #[.int .i64 a, .int .i64 (n : Int)] w fun e w' => e = .returned (.agg #[.int .i64 (Wd.hi p), .int .u64 (Wd.lo p)]) ∧ Below w.heap.size w w') := Lib.hid fun w => hp ▸ mul_any a n w ha hb
  clear hp
  go_enter Try.func3, Try.ntmps3
  go_wp2_with (first | (go_at_call 11; refine (awake1 _).mono ?_; rintro e w1 ⟨rfl, B1⟩) | (go_at_call 12; refine (bitsA.out _).mono ?_; rintro e w2 ⟨rfl, B2⟩; replace B1 := below_then B1 B2; clear B2) | (refine ev_alloc (N := 5) rfl rfl 23 rfl _ zero128 ?_; intro gx w3 hgx RX B2; replace hgx := Nat.le_trans B1.size hgx; replace B1 := below_then B1 B2; clear B2) | (refine ev_store rfl 23 _ _ rfl gx _ rfl rfl RX (info128 _) (by rw [vec_size]; exact (vec_size _ _).symm) (vec_one _ _) rfl ?_; intro w4 RZ S4; replace B1 := S4.below B1 hgx; clear S4))
  have zs := range_of RZ
  have zb := B1
  have hu := Try.underlying23
  have hl : (Try.prog.info? 23).map (·.size) = some (bv ua).toList.length := by rw [Array.length_toList]; exact info128 _
  clear RZ B1 RX
  go_region_held3 (fun w' => Below w.heap.size w w' ∧ w'.rangeAt gx 0 (bv ua).toList) (refine ⟨?_, ?_⟩ <;> first | assumption | exact below_dr zb) (first | (go_at_call 15; rename_i hHeld _ _; ((with_reducible refine (mulB.out _).mono ?_)); rintro e wx ⟨rfl, hb⟩; have HB := below_then hHeld.1 hb; have HS := range_then hHeld.2 hb; clear hb hHeld) | (go_at_call 16; rename_i hHeld _ _; ((with_reducible refine (mulA.out _).mono ?_)); rintro e wx ⟨rfl, hb⟩; have HB := below_then hHeld.1 hb; have HS := range_then hHeld.2 hb; clear hb hHeld) | (go_at_call 14; rename_i hHeld _ _; ((with_reducible refine (is1.out _).mono ?_)); rintro e wx ⟨rfl, hb⟩; have HB := below_then hHeld.1 hb; have HS := range_then hHeld.2 hb; clear hb hHeld) | (go_at_call 14; rename_i hHeld _ _; ((with_reducible refine (is2.out _).mono ?_)); rintro e wx ⟨rfl, hb⟩; have HB := below_then hHeld.1 hb; have HS := range_then hHeld.2 hb; clear hb hHeld) | (go_at_call 18; rename_i hHeld _ _; ((with_reducible refine (of_any a ha _).mono ?_)); rintro e wx ⟨rfl, hb⟩; have HB := below_then hHeld.1 hb; have HS := range_then hHeld.2 hb; clear hb hHeld) | (go_at_call 19; rename_i hHeld _ _; ((with_reducible refine (refA.out _).mono ?_)); rintro e wx ⟨rfl, hb⟩; have HB := below_then hHeld.1 hb; have HS := range_then hHeld.2 hb; clear hb hHeld) | (go_at_call 17; rename_i hHeld _ _; ((with_reducible refine (size_pos _ _ hb hn).mono ?_)); rintro e wx ⟨rfl, rfl⟩))
  go_wp2
  go_ret
  exact ⟨rfl, by assumption⟩
set_option maxHeartbeats 8000000 in
theorem wideMuls_neg (a b : Int) (w : World) (ha : Wd.I64 a) (hb : Wd.I64 b) (hn : b < 0) :
    Calls Try.prog 3 #[.int .i64 a, .int .i64 b] w fun e w' => e = .returned (.bool true) ∧ Below w.heap.size w w' := by
  have hb2 := hb
  unfold Wd.I64 at hb2
  obtain ⟨n, hnb⟩ := Int.eq_ofNat_of_zero_le (a := -b) (by omega)
  have e0 : IntKind.u64.wrap (-IntKind.u64.wrap b) = (n : Int) := by simp only [IntKind.wrap_u64]; omega
  have E0 := Lib.hid e0
  have bitsA : Hid (∀ w : World, Calls Try.prog 12 #[.agg #[.int .i64 (a / 9223372036854775808), .int .u64 (IntKind.u64.wrap a)]] w fun e w' => e = .returned (.agg (bv (u128 a))) ∧ Below w.heap.size w w') := Lib.hid fun w => by
    have h := lawBits_any (a / 9223372036854775808) (IntKind.u64.wrap a) (by unfold Wd.I64 at *; omega) (by unfold Wd.U64; rw [IntKind.wrap_u64]; omega) w
    rwa [num_small a ha] at h
  have refA : Hid (∀ w : World, Calls Try.prog 19 #[.int .i64 (a / 9223372036854775808), .int .u64 (IntKind.u64.wrap a)] w fun e w' => e = .returned (.agg (bv (u128 a))) ∧ Below w.heap.size w w') := Lib.hid fun w => by
    have h := refBits_any (a / 9223372036854775808) (IntKind.u64.wrap a) (by unfold Wd.I64 at *; omega) (by unfold Wd.U64; rw [IntKind.wrap_u64]; omega) w
    rwa [num_small a ha] at h
  have negA : Hid (∀ w : World, Calls Try.prog 13 #[.agg (bv (u128 a))] w fun e w' => e = .returned (.agg (bv (2 ^ 128 - u128 a))) ∧ Below w.heap.size w w') := Lib.hid (refNeg_any (u128 a) (u128_lt a))
  have mulA : Hid (∀ w : World, Calls Try.prog 16 #[.agg (bv (2 ^ 128 - u128 a)), .int .u64 (n : Int)] w fun e w' => e = .returned (.agg (bv ((2 ^ 128 - u128 a) * n))) ∧ Below w.heap.size w w') := Lib.hid (refMul_any (2 ^ 128 - u128 a) n (by omega))
  have is1 : Hid (∀ w : World, Calls Try.prog 14 #[.agg #[.int .i64 (Wd.hi (a * b)), .int .u64 (Wd.lo (a * b))], .agg (bv ((2 ^ 128 - u128 a) * n))] w fun e w' => e = .returned (.bool true) ∧ Below w.heap.size w w') := Lib.hid (is_at (a * b) ((2 ^ 128 - u128 a) * n) (u128_mul (-a) _ (2 ^ 128 - u128 a) (by unfold u128; omega) n (by rw [← hnb, Int.neg_mul_neg])))
  have is2 : Hid (∀ w : World, Calls Try.prog 14 #[.agg #[.int .i64 (Wd.hi a), .int .u64 (Wd.lo a)], .agg (bv (u128 a))] w fun e w' => e = .returned (.bool true) ∧ Below w.heap.size w w') := Lib.hid (is_at a (u128 a) (Nat.mod_eq_of_lt (u128_lt a)))
  have sizeB : Hid (∀ w : World, Calls Try.prog 17 #[.int .i64 b] w fun e w' => e = .returned (.int .u64 (n : Int)) ∧ w = w') := Lib.hid fun w => hnb ▸ size_neg b w hb hn
  clear hnb e0
  generalize 2 ^ 128 - u128 a = na at *
  generalize u128 a = ua at *
  generalize hp : a * b = p at *
  have mulB : Hid (∀ w : World, Calls Try.prog 15 #[.int .i64 a, .int .i64 b] w fun e w' => e = .returned (.agg #[.int .i64 (Wd.hi p), .int .u64 (Wd.lo p)]) ∧ Below w.heap.size w w') := Lib.hid fun w => hp ▸ mul_any a b w ha hb
  clear hp
  go_enter Try.func3, Try.ntmps3
  go_wp2_with (first | (go_at_call 11; refine (awake1 _).mono ?_; rintro e w1 ⟨rfl, B1⟩) | (go_at_call 12; refine (bitsA.out _).mono ?_; rintro e w2 ⟨rfl, B2⟩; replace B1 := below_then B1 B2; clear B2) | (refine ev_alloc (N := 5) rfl rfl 23 rfl _ zero128 ?_; intro gx w3 hgx RX B2; replace hgx := Nat.le_trans B1.size hgx; replace B1 := below_then B1 B2; clear B2) | (refine ev_store rfl 23 _ _ rfl gx _ rfl rfl RX (info128 _) (by rw [vec_size]; exact (vec_size _ _).symm) (vec_one _ _) rfl ?_; clear RX; intro w4 RZ S4; replace B1 := S4.below B1 hgx; clear S4) | (refine ev_load (N := 21) rfl rfl 23 _ rfl gx rfl RZ _ Try.underlying23 rfl (info128 _) ?_) | (go_at_call 13; refine (negA.out _).mono ?_; rintro e w5 ⟨rfl, B5⟩; replace B1 := below_then B1 B5; replace RZ := RZ.below B5; clear B5) | (refine ev_store rfl 23 _ _ rfl gx _ rfl rfl RZ (info128 _) (by rw [bv, vec_size]; exact (vec_size _ _).symm) (vec_one _ _) rfl ?_; clear RZ; intro w6 RY S6; replace B1 := S6.below B1 hgx; clear S6))
  rw [E0.out]
  have zs := range_of RY
  have zb := B1
  have hu := Try.underlying23
  have hl : (Try.prog.info? 23).map (·.size) = some (bv na).toList.length := by rw [Array.length_toList]; exact info128 _
  clear RY B1
  go_region_held3 (fun w' => Below w.heap.size w w' ∧ w'.rangeAt gx 0 (bv na).toList) (refine ⟨?_, ?_⟩ <;> first | assumption | exact below_dr zb) (first | (go_at_call 15; rename_i hHeld _ _; ((with_reducible refine (mulB.out _).mono ?_)); rintro e wx ⟨rfl, hb⟩; have HB := below_then hHeld.1 hb; have HS := range_then hHeld.2 hb; clear hb hHeld) | (go_at_call 16; rename_i hHeld _ _; ((with_reducible refine (mulA.out _).mono ?_)); rintro e wx ⟨rfl, hb⟩; have HB := below_then hHeld.1 hb; have HS := range_then hHeld.2 hb; clear hb hHeld) | (go_at_call 14; rename_i hHeld _ _; ((with_reducible refine (is1.out _).mono ?_)); rintro e wx ⟨rfl, hb⟩; have HB := below_then hHeld.1 hb; have HS := range_then hHeld.2 hb; clear hb hHeld) | (go_at_call 14; rename_i hHeld _ _; ((with_reducible refine (is2.out _).mono ?_)); rintro e wx ⟨rfl, hb⟩; have HB := below_then hHeld.1 hb; have HS := range_then hHeld.2 hb; clear hb hHeld) | (go_at_call 18; rename_i hHeld _ _; ((with_reducible refine (of_any a ha _).mono ?_)); rintro e wx ⟨rfl, hb⟩; have HB := below_then hHeld.1 hb; have HS := range_then hHeld.2 hb; clear hb hHeld) | (go_at_call 19; rename_i hHeld _ _; ((with_reducible refine (refA.out _).mono ?_)); rintro e wx ⟨rfl, hb⟩; have HB := below_then hHeld.1 hb; have HS := range_then hHeld.2 hb; clear hb hHeld) | (go_at_call 17; rename_i hHeld _ _; ((with_reducible refine (sizeB.out _).mono ?_)); rintro e wx ⟨rfl, rfl⟩))
  go_wp2
  go_ret
  exact ⟨rfl, by assumption⟩

theorem wideMuls_any (a b : Int) (w : World) (ha : Wd.I64 a) (hb : Wd.I64 b) :
    Calls Try.prog 3 #[.int .i64 a, .int .i64 b] w fun e w' => e = .returned (.bool true) ∧ Below w.heap.size w w' := by
  by_cases hn : 0 ≤ b
  · exact wideMuls_pos a b w ha hb hn
  · exact wideMuls_neg a b w ha hb (by omega)
end Go.Proofs.Ytimgilkchbcjmaa
