/-
  Bits of natural numbers: what the reference's functions work out, in plain terms. No program here.
-/
import Derived.Test.YtpgjmhhdhngdcaaDoorArr
import Derived.Test.YtpgjmhhdhngdcaaDoorMath1
namespace Go.Proofs.YtpgjmhhdhngdcaaDoor
open Go.RowKit
set_option linter.unusedVariables false
set_option linter.unusedSimpArgs false

/-- bit i of m -/
def bit (m i : Nat) : Int := ((m / 2 ^ i % 2 : Nat) : Int)
/-- m's lowest 128 bits as cells -/
def bv (m : Nat) : Array Value := vec 128 (bit m)
/-- a whole number as one of 128 bits without a sign -/
def u128 (n : Int) : Nat := (n % 340282366920938463463374607431768211456).toNat
theorem u128_lt (n : Int) : u128 n < 2 ^ 128 := by unfold u128; omega
theorem bit_bd (m i : Nat) : 0 ≤ bit m i ∧ bit m i ≤ 1 := by unfold bit; omega

/-- bits below 128 don't hang on what is above -/
theorem mod_bit (m k i : Nat) (h : i < k) : m % 2 ^ k / 2 ^ i % 2 = m / 2 ^ i % 2 := by
  have e : 2 ^ k = 2 ^ i * (2 * 2 ^ (k - i - 1)) := by
    rw [← Nat.mul_assoc, Nat.mul_comm (2 ^ i) 2, Nat.mul_assoc, ← Nat.pow_add, ← Nat.pow_succ', show (i + (k - i - 1)).succ = k by omega]
  rw [e, Nat.mod_mul_right_div_self, Nat.mod_mul_right_mod]
theorem bv_mod (m : Nat) : bv (m % 2 ^ 128) = bv m := vec_congr fun i h => by unfold bit; rw [mod_bit m 128 i h]
theorem bv_eq {a b : Nat} (h : a % 2 ^ 128 = b % 2 ^ 128) : bv a = bv b := by rw [← bv_mod a, ← bv_mod b, h]

/-- a number's lowest k+1 bits -/
theorem mod_succ (m k : Nat) : m % 2 ^ (k + 1) = m % 2 ^ k + 2 ^ k * (m / 2 ^ k % 2) := by rw [Nat.pow_succ, Nat.mod_mul]

/-- what is carried behind k bits of a sum -/
def carry (a b k : Nat) : Nat := (a % 2 ^ k + b % 2 ^ k) / 2 ^ k
theorem carry_zero (a b : Nat) : carry a b 0 = 0 := by unfold carry; simp [Nat.mod_one]
theorem carry_bd (a b k : Nat) : carry a b k < 2 := by
  unfold carry
  have h1 := Nat.mod_lt a (Nat.two_pow_pos k)
  have h2 := Nat.mod_lt b (Nat.two_pow_pos k)
  exact Nat.div_lt_of_lt_mul (by omega)
theorem carry_succ (a b k : Nat) : carry a b (k + 1) = (a / 2 ^ k % 2 + b / 2 ^ k % 2 + carry a b k) / 2 := by
  unfold carry
  rw [mod_succ, mod_succ, Nat.pow_succ, ← Nat.div_div_eq_div_mul]
  have h : (a % 2 ^ k + 2 ^ k * (a / 2 ^ k % 2) + (b % 2 ^ k + 2 ^ k * (b / 2 ^ k % 2))) / 2 ^ k = (a % 2 ^ k + b % 2 ^ k) / 2 ^ k + (a / 2 ^ k % 2 + b / 2 ^ k % 2) := by
    rw [show a % 2 ^ k + 2 ^ k * (a / 2 ^ k % 2) + (b % 2 ^ k + 2 ^ k * (b / 2 ^ k % 2)) = (a % 2 ^ k + b % 2 ^ k) + 2 ^ k * (a / 2 ^ k % 2 + b / 2 ^ k % 2) by rw [Nat.mul_add]; omega,
      Nat.add_mul_div_left _ _ (Nat.two_pow_pos k)]
  rw [h]; congr 1; omega
theorem sum_bit (a b k : Nat) : (a + b) / 2 ^ k % 2 = (a / 2 ^ k % 2 + b / 2 ^ k % 2 + carry a b k) % 2 := by
  have ea := Nat.div_add_mod a (2 ^ k)
  have eb := Nat.div_add_mod b (2 ^ k)
  have h : (a + b) / 2 ^ k = a / 2 ^ k + b / 2 ^ k + carry a b k := by
    unfold carry
    rw [show a + b = (a % 2 ^ k + b % 2 ^ k) + 2 ^ k * (a / 2 ^ k + b / 2 ^ k) by rw [Nat.mul_add]; omega, Nat.add_mul_div_left _ _ (Nat.two_pow_pos k)]
    omega
  rw [h]; omega

/-- all bits turned -/
theorem turned_bit (m k i : Nat) (hm : m < 2 ^ k) (hi : i < k) : (2 ^ k - 1 - m) / 2 ^ i % 2 = 1 - m / 2 ^ i % 2 := by
  have e : 2 ^ k = 2 ^ i * 2 ^ (k - i) := by rw [← Nat.pow_add, show i + (k - i) = k by omega]
  have e2 : 2 ^ (k - i) = 2 * 2 ^ (k - i - 1) := by rw [← Nat.pow_succ', show (k - i - 1).succ = k - i by omega]
  have ed := Nat.div_add_mod m (2 ^ i)
  have hl := Nat.mod_lt m (Nat.two_pow_pos i)
  have hq : m / 2 ^ i < 2 ^ (k - i) := Nat.div_lt_of_lt_mul (by rw [← e]; exact hm)
  have h : (2 ^ k - 1 - m) / 2 ^ i = 2 ^ (k - i) - 1 - m / 2 ^ i := by
    apply Nat.div_eq_of_lt_le
    · have : (2 ^ (k - i) - 1 - m / 2 ^ i) * 2 ^ i + 2 ^ i * (m / 2 ^ i) + 2 ^ i = 2 ^ k := by
        rw [Nat.mul_comm _ (2 ^ i), ← Nat.mul_add, e]
        have : 2 ^ (k - i) - 1 - m / 2 ^ i + m / 2 ^ i + 1 = 2 ^ (k - i) := by omega
        conv => rhs; rw [← this]
        rw [Nat.mul_add (2 ^ i) _ 1, Nat.mul_one]
      omega
    · have : (2 ^ (k - i) - 1 - m / 2 ^ i + 1) * 2 ^ i + 2 ^ i * (m / 2 ^ i) = 2 ^ k := by
        rw [Nat.mul_comm _ (2 ^ i), ← Nat.mul_add, e]
        congr 1; omega
      omega
  rw [h, e2]
  generalize 2 ^ (k - i - 1) = y at *
  omega
/-- a number, moved by i bits -/
theorem moved_bit (a i k : Nat) (h : i ≤ k) : a * 2 ^ i / 2 ^ k % 2 = a / 2 ^ (k - i) % 2 := by
  rw [show 2 ^ k = 2 ^ i * 2 ^ (k - i) by rw [← Nat.pow_add, show i + (k - i) = k by omega], Nat.mul_comm a, Nat.mul_div_mul_left _ _ (Nat.two_pow_pos i)]
theorem moved_low (a i k : Nat) (h : k < i) : a * 2 ^ i / 2 ^ k % 2 = 0 := by
  rw [show 2 ^ i = 2 ^ k * (2 * 2 ^ (i - k - 1)) by rw [← Nat.mul_assoc, Nat.mul_comm (2 ^ k) 2, Nat.mul_assoc, ← Nat.pow_add, ← Nat.pow_succ', show (k + (i - k - 1)).succ = i by omega],
    Nat.mul_left_comm, Nat.mul_div_cancel_left _ (Nat.two_pow_pos k), Nat.mul_left_comm]
  omega
/-- bits of a number out of its halves -/
theorem num_bit_lo (h l : Int) (hl : Wd.U64 l) (i : Nat) (hi : i < 64) : bit (u128 (Wd.num h l)) i = l / 2 ^ i % 2 := by
  unfold Wd.U64 at hl
  obtain ⟨n, rfl⟩ := Int.eq_ofNat_of_zero_le hl.1
  have e : u128 (Wd.num h n) % 2 ^ 64 = n := by unfold u128 Wd.num; omega
  unfold bit
  rw [← mod_bit _ 64 i hi, e]
  simp
theorem num_bit_hi (h l : Int) (hh : Wd.I64 h) (hl : Wd.U64 l) (i : Nat) (hi : i < 64) : bit (u128 (Wd.num h l)) (64 + i) = IntKind.u64.wrap h / 2 ^ i % 2 := by
  unfold Wd.U64 at hl
  obtain ⟨n, hn⟩ := Int.eq_ofNat_of_zero_le (a := IntKind.u64.wrap h) (by rw [IntKind.wrap_u64]; omega)
  have e : u128 (Wd.num h l) / 2 ^ 64 = n := by rw [IntKind.wrap_u64] at hn; unfold u128 Wd.num; omega
  unfold bit
  rw [Nat.pow_add, ← Nat.div_div_eq_div_mul, e, hn]
  simp
/-- a sum of bits, one more -/
theorem sum_low (m k : Nat) (hk : k < 64) : IntKind.u64.wrap (((m % 2 ^ k : Nat) : Int) + IntKind.u64.wrap (bit m k * 2 ^ k)) = ((m % 2 ^ (k + 1) : Nat) : Int) := by
  have h1 := Nat.mod_lt m (Nat.two_pow_pos k)
  have h2 := Nat.mod_lt m (Nat.two_pow_pos (k + 1))
  have h3 : 2 ^ (k + 1) ≤ 2 ^ 64 := Nat.pow_le_pow_right (by omega) (by omega)
  have h4 := mod_succ m k
  have e : bit m k * 2 ^ k = ((2 ^ k * (m / 2 ^ k % 2) : Nat) : Int) := by unfold bit; rw [Int.mul_comm]; simp
  rw [e, IntKind.wrap_u64, IntKind.wrap_u64]
  omega
theorem bit_high (m k : Nat) : bit m (64 + k) = bit (m / 2 ^ 64) k := by
  unfold bit
  rw [Nat.pow_add, ← Nat.div_div_eq_div_mul]
theorem neg_bit (a i : Nat) (ha : a < 2 ^ 128) (hi : i < 128) : 1 - bit a i = bit (2 ^ 128 - 1 - a) i := by
  unfold bit; rw [turned_bit a 128 i ha hi]; omega
theorem bit_one (i : Nat) : bit 1 i = if i = 0 then 1 else 0 := by
  unfold bit
  by_cases e : i = 0
  · subst e; rfl
  · have : 1 / 2 ^ i = 0 := Nat.div_eq_of_lt (by have := Nat.pow_le_pow_right (n := 2) (by omega) (show 1 ≤ i by omega); omega)
    rw [this, if_neg e]; rfl
theorem moved_start (a k i : Nat) : (0 : Int) = if i < k then bit (a * 2 ^ k) i else 0 := by
  by_cases e : i < k
  · rw [if_pos e]; unfold bit; rw [moved_low a k i e]; rfl
  · rw [if_neg e]
end Go.Proofs.YtpgjmhhdhngdcaaDoor
