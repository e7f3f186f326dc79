/-
  What law 3's own quo comes to: a product, divided bit by bit.
-/
import Derived.Test.YtpgjmhhdhngdcaaDoorRef01m
import Derived.Test.YtpgjmhhdhngdcaaDoorShareL
namespace Go.Proofs.YtpgjmhhdhngdcaaDoor
open Go.RowKit
set_option linter.unusedVariables false
set_option linter.unusedSimpArgs false

theorem num_zero (S : Nat) (h : S ≤ 9223372036854775808) : u128 (Wd.num 0 (S : Int)) = S := by
  unfold u128 Wd.num
  omega
theorem half_bit (m k : Nat) : m / 2 ^ k = 2 * (m / 2 ^ (k + 1)) + m / 2 ^ k % 2 := by
  rw [Nat.pow_succ, ← Nat.div_div_eq_div_mul]
  omega

set_option maxHeartbeats 2000000 in
theorem quoL_any (S z T : Nat) (hS : S ≤ 9223372036854775808) (hz : 1 ≤ z) (hzT : z ≤ T) (hT : T ≤ 8000000) (w : World) :
    Calls Tryd.prog 47 #[.int .u64 (S : Int), .int .i64 (z : Int), .int .i64 (T : Int)] w fun e w' => e = .returned (.tuple #[.int .u64 ((S * z / T : Nat) : Int), .int .u64 ((S * z % T : Nat) : Int)]) ∧ Below w.heap.size w w' := by
  have hT0 : 0 < T := by omega
  have hm : S * z < 2 ^ 128 := by
    have := Nat.mul_le_mul hS (show z ≤ 8000000 by omega)
    have e : (2 : Nat) ^ 128 = 340282366920938463463374607431768211456 := by decide
    omega
  have hm1 : S * z / T ≤ 9223372036854775808 := by
    refine Nat.le_trans (Nat.div_le_div_right (Nat.mul_le_mul_left S hzT)) ?_
    rw [Nat.mul_div_cancel _ hT0]
    exact hS
  have CB : Hid (∀ W : World, Calls Tryd.prog 20 #[.int .i64 0, .int .u64 (S : Int)] W fun e w' => e = .returned (.agg (bv S)) ∧ Below W.heap.size W w') := Lib.hid fun W => by
    have h := refBits_any 0 (S : Int) (by unfold Wd.I64; omega) (by unfold Wd.U64; omega) W
    rw [num_zero S hS] at h
    exact h
  have CM := Lib.hid fun W => refMul_any S z (by omega) W
  have hz2 : z ≤ 8000000 := by omega
  clear hzT hz
  generalize S * z = m at *
  have DV := Lib.hid (show ∀ k, m / 2 ^ k / T ≤ 9223372036854775808 from fun k => Nat.le_trans (Nat.div_le_div_right (Nat.div_le_self _ _)) hm1)
  have E0 := Lib.hid (show m / 2 ^ 128 = 0 from Nat.div_eq_of_lt hm)
  clear hm hm1
  have ez : IntKind.u64.wrap (z : Int) = (z : Int) := by rw [IntKind.wrap_u64]; omega
  have eT : IntKind.u64.wrap (T : Int) = (T : Int) := by rw [IntKind.wrap_u64]; omega
  go_enter Tryd.func47, Tryd.ntmps47
  go_wp2_with fail
  refine (CB.out _).mono ?_
  rintro _ w1 ⟨rfl, hb1⟩
  go_wp2_with fail
  refine (CM.out _).mono ?_
  rintro _ w2 ⟨rfl, hb2⟩
  have hB2 := below_then hb1 hb2
  clear CB CM hb1 hb2 ez
  go_wp2_with (first | (refine ev_alloc (N := 8) rfl rfl 34 rfl _ zero128 ?_; intro g w3 hg RR B3) | (refine ev_store rfl 34 _ _ rfl g _ rfl rfl RR (info128 _) (by rw [vec_size]; exact (vec_size _ _).symm) (vec_one _ _) rfl ?_; intro w4 RZ S4))
  have hB4 := S4.below (below_then hB2 B3) (Nat.le_trans hB2.size hg)
  clear RR S4 B3 hg hB2
  go_loopw [9, 10, 11] (fun q r i wr => ∃ k : Nat, k ≤ 128 ∧ q = .int .u64 ((m / 2 ^ k / T : Nat) : Int) ∧ r = .int .u64 ((m / 2 ^ k % T : Nat) : Int) ∧ i = .int .i64 ((k : Int) - 1) ∧ Row wr g (bv m) 34 ∧ Below w.heap.size w wr) (fun _ _ i _ => ((intOf i) + 1).toNat)
  case atStart => exact ⟨128, by omega, by rw [E0.out]; simp, by rw [E0.out]; simp, rfl, RZ, hB4⟩
  case round =>
    obtain ⟨k, hk, rfl, rfl, rfl, Z, BB⟩ := hrel
    clear RZ hB4 E0
    by_cases hlt : 0 < k
    · obtain ⟨j, rfl⟩ : ∃ j, k = j + 1 := ⟨k - 1, by omega⟩
      have ei : (((j + 1 : Nat) : Int) - 1) = (j : Int) := by omega
      rw [ei]
      have h0 : (0 : Int) ≤ (j : Int) := by omega
      have h1 : (j : Int) < 128 := by omega
      have c0 := (Z.cell j).trans (vec_get _ _ _ (by omega))
      have dv := DV.out j
      have hb := half_bit m j
      unfold bit at c0
      have hbb : m / 2 ^ j % 2 ≤ 1 := by omega
      have HE := Lib.hid (show (m / 2 ^ j / T = _ ∧ m / 2 ^ j % T = _) from by rw [hb]; exact bit_div (m / 2 ^ (j + 1)) (m / 2 ^ j % 2) T hT0 hbb)
      have hr := Nat.mod_lt (m / 2 ^ (j + 1)) hT0
      clear hb
      rw [HE.out.1] at dv
      generalize m / 2 ^ j % 2 = b at *
      generalize m / 2 ^ (j + 1) / T = q at *
      generalize m / 2 ^ (j + 1) % T = r at *
      have e1 : IntKind.u64.wrap (2 * (r : Int)) = 2 * (r : Int) := by rw [IntKind.wrap_u64]; omega
      have e2 : IntKind.u64.wrap (b : Int) = (b : Int) := by rw [IntKind.wrap_u64]; omega
      have e3 : IntKind.u64.wrap (2 * (r : Int) + (b : Int)) = 2 * (r : Int) + (b : Int) := by rw [IntKind.wrap_u64]; omega
      have e4 : IntKind.u64.wrap (2 * (q : Int)) = 2 * (q : Int) := by rw [IntKind.wrap_u64]; omega
      by_cases c : T ≤ 2 * r + b
      · rw [if_pos c] at dv HE
        rw [if_pos c] at HE
        have c2 : (T : Int) ≤ 2 * (r : Int) + (b : Int) := by omega
        have e5 : IntKind.u64.wrap (2 * (r : Int) + (b : Int) - (T : Int)) = 2 * (r : Int) + (b : Int) - (T : Int) := by rw [IntKind.wrap_u64]; omega
        have e6 : IntKind.u64.wrap (2 * (q : Int) + 1) = 2 * (q : Int) + 1 := by rw [IntKind.wrap_u64]; omega
        go_wp2
        go_roundw
        case rel => exact ⟨j, by omega, by rw [HE.out.1]; go_num, by rw [HE.out.2]; go_num, by go_num, Z, BB⟩
        case measure => simp [intOf] <;> omega
      · rw [if_neg c] at dv HE
        rw [if_neg c] at HE
        have c2 : ¬ (T : Int) ≤ 2 * (r : Int) + (b : Int) := by omega
        go_wp2
        go_roundw
        case rel => exact ⟨j, by omega, by rw [HE.out.1]; go_num, by rw [HE.out.2]; go_num, by go_num, Z, BB⟩
        case measure => simp [intOf] <;> omega
    · have hk0 : k = 0 := by omega
      subst hk0
      have en : ¬ (0 : Int) ≤ ((0 : Nat) : Int) - 1 := by omega
      go_wp2
      go_ret2
      simp [BB]
end Go.Proofs.YtpgjmhhdhngdcaaDoor
