/-
  Own texts, several in one (Math1, Wide, MoneyA).
-/
import Derived.WalkKit
import Derived.Laws.Bits64
import Derived.Laws.BitsAllLaws
import Derived.Test.YtbhjkddjgikaiaaGreatDoorProg
import Derived.Test.YtbhjkddjgikaiaaGreatDoorMrg1
import Derived.Deep.QuietTactic
import Derived.BigQuiet
import Derived.Deep.RegionHeld3
namespace Go.Proofs.YtbhjkddjgikaiaaGreatDoor
open Go.RowKit
set_option linter.unusedVariables false
set_option linter.unusedSimpArgs false

namespace Wd
/-- the low half -/
def lo (n : Int) : Int := n % 18446744073709551616
/-- the high half, signed -/
def hi (n : Int) : Int := wrap64 (n / 18446744073709551616)
/-- is it within 64 bits, signed? -/
def I64 (n : Int) : Prop := -9223372036854775808 ≤ n ∧ n ≤ 9223372036854775807
def U64 (n : Int) : Prop := 0 ≤ n ∧ n ≤ 18446744073709551615
/-- a number out of its halves -/
def num (h l : Int) : Int := h * 18446744073709551616 + l

theorem lo_bd (n : Int) : U64 (lo n) := by unfold lo U64; omega
theorem hi_bd (n : Int) : I64 (hi n) := by unfold hi I64 wrap64; omega
theorem add_lo (a b : Int) : IntKind.u64.wrap (lo a + lo b) = lo (a + b) := by rw [IntKind.wrap_u64]; unfold lo; omega
theorem add_hi1 (a b : Int) (h : IntKind.u64.wrap (lo a + lo b) < lo a) : wrap64 (IntKind.u64.wrap (IntKind.u64.wrap (IntKind.u64.wrap (hi a) + IntKind.u64.wrap (hi b)) + 1)) = hi (a + b) := by
  simp only [IntKind.wrap_u64] at *; unfold lo at h; unfold hi wrap64; omega
theorem add_hi0 (a b : Int) (h : lo a ≤ IntKind.u64.wrap (lo a + lo b)) : wrap64 (IntKind.u64.wrap (IntKind.u64.wrap (hi a) + IntKind.u64.wrap (hi b))) = hi (a + b) := by
  simp only [IntKind.wrap_u64] at *; unfold lo at h; unfold hi wrap64; omega
theorem of_hi (n : Int) (h : I64 n) : n / 9223372036854775808 = hi n := by unfold I64 at h; unfold hi wrap64; omega
theorem of_lo (n : Int) : IntKind.u64.wrap n = lo n := by rw [IntKind.wrap_u64]; rfl
theorem not_u64 (x : Int) (h : U64 x) : bits .xor .u64 18446744073709551615 x = 18446744073709551615 - x := by
  unfold U64 at h
  obtain ⟨n, rfl⟩ := Int.eq_ofNat_of_zero_le h.1
  have e := bits_xor_u64_nat 18446744073709551615 n (by omega) (by omega)
  rw [show ((18446744073709551615 : Nat) : Int) = 18446744073709551615 from rfl] at e
  rw [e]
  have hx : 18446744073709551615 ^^^ n = 18446744073709551615 - n := by
    have h1 : n < 2 ^ 64 := by omega
    have h2 := BitVec.toNat_not (x := BitVec.ofNat 64 n)
    rw [BitVec.not_def, BitVec.toNat_xor, BitVec.toNat_ofNat, BitVec.toNat_allOnes, Nat.mod_eq_of_lt h1] at h2
    simpa using h2
  rw [hx]; omega
theorem not_hi (a : Int) : -1 - hi a = hi (-1 - a) := by unfold hi wrap64; omega
theorem not_lo (a : Int) : 18446744073709551615 - lo a = lo (-1 - a) := by unfold lo; omega
theorem not_u64' (x : Int) (h : U64 x) : bits .xor .u64 IntKind.u64.max x = 18446744073709551615 - x := not_u64 x h
theorem not_i64 (x : Int) (h : I64 x) : bits .xor .i64 (-1) x = -1 - x := by
  unfold I64 at h
  show IntKind.i64.wrap ((BitVec.ofInt 64 (-1) ^^^ BitVec.ofInt 64 x).toNat : Int) = _
  have e : BitVec.ofInt 64 (-1) = BitVec.allOnes 64 := by decide
  rw [e, ← BitVec.not_def, BitVec.toNat_not, IntKind.wrap_i64, BitVec.toNat_ofInt]
  omega
theorem and_low (x : Int) (h : U64 x) : bits .and .u64 x 4294967295 = x % 4294967296 := by
  unfold U64 at h
  have e := u64_and x 4294967295 h.1 (by omega) (by omega) (by omega)
  rw [e, show (4294967295 : Int).toNat = 2 ^ 32 - 1 from rfl, Nat.and_two_pow_sub_one_eq_mod]
  omega
theorem or_low (x y : Int) (h0 : 0 ≤ y) (h1 : y < 4294967296) : bits .or .u64 (x * 4294967296 % 18446744073709551616) y = (x * 4294967296 + y) % 18446744073709551616 := by
  have e := u64_or (x * 4294967296 % 18446744073709551616) y (by omega) (by omega) (by omega) (by omega)
  rw [e]
  have h2 : (x * 4294967296 % 18446744073709551616).toNat = 2 ^ 32 * (x % 4294967296).toNat := by omega
  have h3 := Nat.two_pow_add_eq_or_of_lt (i := 32) (b := y.toNat) (by omega) (x % 4294967296).toNat
  rw [h2, ← h3]; omega
theorem mul_bd (a b : Int) (ha : 0 ≤ a) (hb : 0 ≤ b) (ha' : a ≤ 4294967295) (hb' : b ≤ 4294967295) : 0 ≤ a * b ∧ a * b ≤ 18446744065119617025 := by
  refine ⟨Int.mul_nonneg ha hb, ?_⟩
  have := Int.mul_le_mul ha' hb' hb (by omega : (0 : Int) ≤ 4294967295)
  omega
theorem mul_parts (a b : Int) : a * b = (a / 4294967296) * (b / 4294967296) * 18446744073709551616 + ((a / 4294967296) * (b % 4294967296) + (a % 4294967296) * (b / 4294967296)) * 4294967296 + (a % 4294967296) * (b % 4294967296) := by
  have ea : a = a / 4294967296 * 4294967296 + a % 4294967296 := by omega
  have eb : b = b / 4294967296 * 4294967296 + b % 4294967296 := by omega
  generalize a / 4294967296 = a1 at *
  generalize a % 4294967296 = a0 at *
  generalize b / 4294967296 = b1 at *
  generalize b % 4294967296 = b0 at *
  subst ea eb
  simp only [Int.add_mul, Int.mul_add]
  have h1 : a1 * 4294967296 * (b1 * 4294967296) = a1 * b1 * 18446744073709551616 := by
    rw [Int.mul_assoc, Int.mul_left_comm 4294967296, ← Int.mul_assoc]; omega
  have h2 : a0 * (b1 * 4294967296) = a0 * b1 * 4294967296 := by rw [Int.mul_assoc]
  have h3 : a1 * 4294967296 * b0 = a1 * b0 * 4294967296 := by rw [Int.mul_assoc, Int.mul_comm 4294967296, ← Int.mul_assoc]
  omega

/-- what 'mul' works out: x, y, z and the two halves, as the walk spells them -/
def mx (a b : Int) : Int := IntKind.u64.wrap (bits .and .u64 a 4294967295 * bits .and .u64 b 4294967295)
def my (a b : Int) : Int := IntKind.u64.wrap (IntKind.u64.wrap (a / 4294967296 * bits .and .u64 b 4294967295) + mx a b / 4294967296)
def mz (a b : Int) : Int := IntKind.u64.wrap (IntKind.u64.wrap (bits .and .u64 a 4294967295 * (b / 4294967296)) + bits .and .u64 (my a b) 4294967295)
def mhi (a b : Int) : Int := wrap64 (IntKind.u64.wrap (IntKind.u64.wrap (IntKind.u64.wrap (a / 4294967296 * (b / 4294967296)) + my a b / 4294967296) + mz a b / 4294967296))
def mlo (a b : Int) : Int := bits .or .u64 (IntKind.u64.wrap (mz a b * 4294967296)) (bits .and .u64 (mx a b) 4294967295)
theorem mul_halves (a b : Int) (ha : U64 a) (hb : U64 b) : mhi a b = hi (a * b) ∧ mlo a b = lo (a * b) := by
  have p00 := mul_bd (a % 4294967296) (b % 4294967296) (by omega) (by omega) (by omega) (by omega)
  have hab := mul_parts a b
  unfold U64 at ha hb
  have p10 := mul_bd (a / 4294967296) (b % 4294967296) (by omega) (by omega) (by omega) (by omega)
  have p01 := mul_bd (a % 4294967296) (b / 4294967296) (by omega) (by omega) (by omega) (by omega)
  have p11 := mul_bd (a / 4294967296) (b / 4294967296) (by omega) (by omega) (by omega) (by omega)
  have aA := and_low a ha
  have aB := and_low b hb
  have ex : mx a b = a % 4294967296 * (b % 4294967296) := by unfold mx; rw [aA, aB, IntKind.wrap_u64]; omega
  have ey : my a b = a / 4294967296 * (b % 4294967296) + mx a b / 4294967296 := by unfold my; rw [aB, IntKind.wrap_u64, IntKind.wrap_u64]; rw [ex]; omega
  have ez : mz a b = a % 4294967296 * (b / 4294967296) + my a b % 4294967296 := by
    unfold mz; rw [aA, and_low (my a b) (by unfold U64; rw [ey, ex]; omega), IntKind.wrap_u64, IntKind.wrap_u64]; omega
  have el : mlo a b = (mz a b * 4294967296 + mx a b % 4294967296) % 18446744073709551616 := by
    unfold mlo; rw [and_low (mx a b) (by unfold U64; rw [ex]; omega), IntKind.wrap_u64, or_low _ _ (by omega) (by omega)]
  unfold mhi
  rw [el]
  simp only [IntKind.wrap_u64]
  generalize mx a b = x at *
  generalize my a b = y at *
  generalize mz a b = z at *
  rw [hab]
  generalize a / 4294967296 * (b / 4294967296) = q11 at *
  generalize a / 4294967296 * (b % 4294967296) = q10 at *
  generalize a % 4294967296 * (b / 4294967296) = q01 at *
  generalize a % 4294967296 * (b % 4294967296) = q00 at *
  clear hab aA aB
  unfold hi lo wrap64
  constructor <;> omega
theorem and_one (x : Nat) (h : x < 18446744073709551616) : bits .and .u64 (x : Int) 1 = ((x % 2 : Nat) : Int) := by
  have e := u64_and_nat x 1 h (by omega)
  rw [show ((1 : Nat) : Int) = 1 from rfl] at e
  rw [e, Nat.and_one_is_mod]
theorem or_bit (r b : Nat) (hr : r < 9223372036854775808) (hb : b < 2) : bits .or .u64 ((r * 2 : Nat) : Int) (b : Int) = ((2 * r + b : Nat) : Int) := by
  have e := u64_or_nat (r * 2) b (by omega) (by omega)
  rw [e]
  have h3 := Nat.two_pow_add_eq_or_of_lt (i := 1) (b := b) (by omega) r
  rw [show r * 2 = 2 ^ 1 * r by omega, ← h3]
theorem hi_nat (a : Nat) (h : a < 170141183460469231731687303715884105728) : hi (a : Int) = ((a / 18446744073709551616 : Nat) : Int) := by unfold hi wrap64; omega
theorem lo_nat (a : Nat) : lo (a : Int) = ((a % 18446744073709551616 : Nat) : Int) := by unfold lo; omega

/-- the bit by which a number halved k times parts from the one halved k-1 times -/
theorem half_step (a k : Nat) : a / 2 ^ k = 2 * (a / 2 ^ (k + 1)) + a / 2 ^ k % 2 := by
  rw [Nat.pow_succ, ← Nat.div_div_eq_div_mul]; omega
theorem low_bit (a k : Nat) (h : k < 64) : a % 18446744073709551616 / 2 ^ k % 2 = a / 2 ^ k % 2 := by
  have e : 18446744073709551616 = 2 ^ k * (2 * 2 ^ (63 - k)) := by
    rw [← Nat.mul_assoc, Nat.mul_comm (2 ^ k) 2, Nat.mul_assoc, ← Nat.pow_add, ← Nat.pow_succ', show (k + (63 - k)).succ = 64 by omega]
  rw [e, Nat.mod_mul_right_div_self, Nat.mod_mul_right_mod]
theorem quo_step1 (x d b : Nat) (hd : 0 < d) (hb : b < 2) (h : d ≤ 2 * (x % d) + b) : (2 * x + b) / d = 2 * (x / d) + 1 ∧ (2 * x + b) % d = 2 * (x % d) + b - d := by
  rw [Nat.div_mod_unique hd]
  have e := Nat.div_add_mod x d
  have hl := Nat.mod_lt x hd
  refine ⟨?_, by omega⟩
  rw [Nat.mul_add, Nat.mul_left_comm]; omega
theorem quo_step0 (x d b : Nat) (hd : 0 < d) (h : 2 * (x % d) + b < d) : (2 * x + b) / d = 2 * (x / d) ∧ (2 * x + b) % d = 2 * (x % d) + b := by
  rw [Nat.div_mod_unique hd]
  have e := Nat.div_add_mod x d
  refine ⟨?_, by omega⟩
  rw [Nat.mul_left_comm]; omega
theorem quo_bd (a d k : Nat) (hd : 0 < d) (h : a < d * 18446744073709551616) (hk : 0 < k) : a / 2 ^ k / d < 9223372036854775808 := by
  have h1 : a / d < 18446744073709551616 := Nat.div_lt_of_lt_mul h
  rw [Nat.div_div_eq_div_mul, Nat.mul_comm, ← Nat.div_div_eq_div_mul]
  have h2 : a / d / 2 ^ k ≤ a / d / 2 := Nat.div_le_div_left (by have := Nat.pow_le_pow_right (n := 2) (by omega) hk; simpa using this) (by omega)
  omega
theorem round_bits (a j R lo : Nat) (hlo : a % 18446744073709551616 = lo) (hj : j < 64) (hR : R < 9223372036854775808) :
    bits .or .u64 ((R : Int) * 2) (bits .and .u64 ((lo : Int) / 2 ^ j) 1) = ((2 * R + a / 2 ^ j % 2 : Nat) : Int) := by
  have h1 : ((lo : Int) / 2 ^ j) = ((lo / 2 ^ j : Nat) : Int) := by simp
  have h2 : lo / 2 ^ j ≤ lo := Nat.div_le_self _ _
  rw [h1, and_one _ (by omega), ← hlo, low_bit a j hj]
  exact or_bit R _ hR (by omega)
theorem wrap_diff (a b : Nat) (h : b ≤ a) (ha : a < 18446744073709551616) : IntKind.u64.wrap ((a : Int) - (b : Int)) = ((a - b : Nat) : Int) := by rw [IntKind.wrap_u64]; omega
theorem or_one (q : Nat) (hq : q < 9223372036854775808) : bits .or .u64 ((q : Int) * 2) 1 = ((2 * q + 1 : Nat) : Int) := or_bit q 1 hq (by omega)
theorem quo_round1 (a d j Q R : Nat) (hd : 0 < d) (hQ : a / 2 ^ (j + 1) / d = Q) (hR : a / 2 ^ (j + 1) % d = R) (h : d ≤ 2 * R + a / 2 ^ j % 2) : a / 2 ^ j / d = 2 * Q + 1 ∧ a / 2 ^ j % d = 2 * R + a / 2 ^ j % 2 - d := by
  have e := half_step a j
  have hb : a / 2 ^ j % 2 < 2 := by omega
  generalize a / 2 ^ j % 2 = b at *
  rw [e, ← hQ, ← hR]; rw [← hR] at h
  exact quo_step1 _ d b hd hb h
theorem quo_round0 (a d j Q R : Nat) (hd : 0 < d) (hQ : a / 2 ^ (j + 1) / d = Q) (hR : a / 2 ^ (j + 1) % d = R) (h : 2 * R + a / 2 ^ j % 2 < d) : a / 2 ^ j / d = 2 * Q ∧ a / 2 ^ j % d = 2 * R + a / 2 ^ j % 2 := by
  have e := half_step a j
  generalize a / 2 ^ j % 2 = b at *
  rw [e, ← hQ, ← hR]; rw [← hR] at h
  exact quo_step0 _ d b hd h
end Wd
end Go.Proofs.YtbhjkddjgikaiaaGreatDoor

namespace Go.Proofs.YtbhjkddjgikaiaaGreatDoor
open Go.RowKit
set_option linter.unusedVariables false
set_option linter.unusedSimpArgs false

set_option maxHeartbeats 400000 in
theorem add_any (a b : Int) (w : World) :
    Calls Tryz.prog 264 #[.agg #[.int .i64 (Wd.hi a), .int .u64 (Wd.lo a)], .agg #[.int .i64 (Wd.hi b), .int .u64 (Wd.lo b)]] w fun e w' => e = .returned (.agg #[.int .i64 (Wd.hi (a + b)), .int .u64 (Wd.lo (a + b))]) ∧ Below w.heap.size w w' := by
  go_enter Tryz.func264, Tryz.ntmps264
  go_wp2
  · have h : IntKind.u64.wrap (Wd.lo a + Wd.lo b) < Wd.lo a := by assumption
    refine bodyPost_ret (v := .agg #[.int .i64 (Wd.hi (a + b)), .int .u64 (Wd.lo (a + b))]) (by simp [results, Tryz.results264, go_sem, Wd.add_hi1 a b h, Wd.add_lo]) rfl ⟨rfl, ?_⟩
    exact (((Below.refl _ _).alloc (Nat.le_refl _) _).alloc (by simp) _).alloc (by simp; omega) _
  · have h : Wd.lo a ≤ IntKind.u64.wrap (Wd.lo a + Wd.lo b) := by assumption
    refine bodyPost_ret (v := .agg #[.int .i64 (Wd.hi (a + b)), .int .u64 (Wd.lo (a + b))]) (by simp [results, Tryz.results264, go_sem, Wd.add_hi0 a b h, Wd.add_lo]) rfl ⟨rfl, ?_⟩
    exact (((Below.refl _ _).alloc (Nat.le_refl _) _).alloc (by simp) _).alloc (by simp; omega) _

/-- the same, for arguments that are spelled otherwise -/
theorem add_at {ah al bh bl : Int} (a b : Int) (h1 : ah = Wd.hi a) (h2 : al = Wd.lo a) (h3 : bh = Wd.hi b) (h4 : bl = Wd.lo b) (w : World) :
    Calls Tryz.prog 264 #[.agg #[.int .i64 ah, .int .u64 al], .agg #[.int .i64 bh, .int .u64 bl]] w fun e w' => e = .returned (.agg #[.int .i64 (Wd.hi (a + b)), .int .u64 (Wd.lo (a + b))]) ∧ Below w.heap.size w w' := by
  subst h1 h2 h3 h4; exact add_any a b w

def Wd.cmp (a b : Int) : Int := if Wd.hi a = Wd.hi b ∧ Wd.lo a = Wd.lo b then 0 else if Wd.hi a < Wd.hi b ∨ (Wd.hi a = Wd.hi b ∧ Wd.lo a < Wd.lo b) then -1 else 1
set_option maxHeartbeats 400000 in
theorem neg_any (a : Int) (w : World) :
    Calls Tryz.prog 296 #[.agg #[.int .i64 (Wd.hi a), .int .u64 (Wd.lo a)]] w fun e w' => e = .returned (.agg #[.int .i64 (Wd.hi (-a)), .int .u64 (Wd.lo (-a))]) ∧ Below w.heap.size w w' := by
  go_enter Tryz.func296, Tryz.ntmps296
  go_wp2_with fail
  refine (add_at (-1 - a) 1 ?_ ?_ ?_ ?_ _).mono ?_
  · rw [Wd.not_i64 _ (Wd.hi_bd a), Wd.not_hi]
  · rw [Wd.not_u64' _ (Wd.lo_bd a), Wd.not_lo]
  · unfold Wd.hi wrap64; rfl
  · unfold Wd.lo; rfl
  rintro e w1 ⟨rfl, hb⟩
  rw [show -1 - a + 1 = -a from by omega]
  obtain ⟨hc, hf⟩ := bcell hb
  have hz : w.heap.size + 1 < w1.heap.size := by have := hb.size; simp at this; omega
  go_wp2
  refine bodyPost_ret (v := .agg #[.int .i64 (Wd.hi (-a)), .int .u64 (Wd.lo (-a))]) (by simp [results, Tryz.results296, go_sem, hc, hz]) rfl ⟨rfl, ?_⟩
  exact (((((Below.refl _ _).alloc (Nat.le_refl _) _).alloc (by simp) _).trans (hb.mono (by simp; omega))).setCell (by simp) _).setCell (by simp) _

set_option maxHeartbeats 400000 in
theorem of_any (n : Int) (h : Wd.I64 n) (w : World) :
    Calls Tryz.prog 265 #[.int .i64 n] w fun e w' => e = .returned (.agg #[.int .i64 (Wd.hi n), .int .u64 (Wd.lo n)]) ∧ Below w.heap.size w w' := by
  go_enter Tryz.func265, Tryz.ntmps265
  go_wp2
  refine bodyPost_ret (v := .agg #[.int .i64 (Wd.hi n), .int .u64 (Wd.lo n)]) (by simp [results, Tryz.results265, go_sem, Wd.of_hi n h, Wd.of_lo]) rfl ⟨rfl, ?_⟩
  exact (Below.refl _ _).alloc (Nat.le_refl _) _


set_option maxHeartbeats 400000 in
theorem mul0_any (a b : Int) (w : World) (ha : Wd.U64 a) (hb : Wd.U64 b) :
    Calls Tryz.prog 295 #[.int .u64 a, .int .u64 b] w fun e w' => e = .returned (.agg #[.int .i64 (Wd.hi (a * b)), .int .u64 (Wd.lo (a * b))]) ∧ Below w.heap.size w w' := by
  have hm := Wd.mul_halves a b ha hb
  unfold Wd.mhi Wd.mlo Wd.mz Wd.my Wd.mx at hm
  have H := Lib.hid hm
  clear hm
  go_enter Tryz.func295, Tryz.ntmps295
  go_wp2
  obtain ⟨h1, h2⟩ := H.out
  refine bodyPost_ret (v := .agg #[.int .i64 (Wd.hi (a * b)), .int .u64 (Wd.lo (a * b))]) (by simp [results, Tryz.results295, go_sem]; exact ⟨h1, h2⟩) rfl ⟨rfl, ?_⟩
  exact (Below.refl _ _).alloc (Nat.le_refl _) _

set_option maxHeartbeats 400000 in
theorem size_neg (a : Int) (w : World) (h : Wd.I64 a) (hn : a < 0) :
    Calls Tryz.prog 285 #[.int .i64 a] w fun e w' => e = .returned (.int .u64 (-a)) ∧ w = w' := by
  unfold Wd.I64 at h
  have e : IntKind.u64.wrap (-IntKind.u64.wrap a) = -a := by simp only [IntKind.wrap_u64]; omega
  have H := Lib.hid e
  clear e
  go_enter Tryz.func285, Tryz.ntmps285
  go_wp2
  go_ret
  exact ⟨ret_int (k := .u64) H.out, rfl⟩
set_option maxHeartbeats 400000 in
theorem size_pos (a : Int) (w : World) (h : Wd.I64 a) (hn : 0 ≤ a) :
    Calls Tryz.prog 285 #[.int .i64 a] w fun e w' => e = .returned (.int .u64 a) ∧ w = w' := by
  unfold Wd.I64 at h
  have e : IntKind.u64.wrap a = a := by simp only [IntKind.wrap_u64]; omega
  have H := Lib.hid e
  clear e
  go_enter Tryz.func285, Tryz.ntmps285
  go_wp2
  go_ret
  exact ⟨rfl, rfl⟩
def Wd.abs (a : Int) : Int := if a < 0 then -a else a
theorem size_any (a : Int) (w : World) (h : Wd.I64 a) :
    Calls Tryz.prog 285 #[.int .i64 a] w fun e w' => e = .returned (.int .u64 (Wd.abs a)) ∧ w = w' := by
  unfold Wd.abs
  by_cases hn : a < 0
  · rw [if_pos hn]; exact size_neg a w h hn
  · rw [if_neg hn]; exact size_pos a w h (by omega)
theorem Wd.abs_U64 (a : Int) (h : Wd.I64 a) : Wd.U64 (Wd.abs a) := by unfold Wd.abs Wd.U64; unfold Wd.I64 at h; split <;> omega


theorem Wd.abs_same (a b : Int) (h : a < 0 ↔ b < 0) : Wd.abs a * Wd.abs b = a * b := by
  unfold Wd.abs; by_cases h1 : a < 0
  · rw [if_pos h1, if_pos (h.1 h1), Int.neg_mul_neg]
  · rw [if_neg h1, if_neg (fun h2 => h1 (h.2 h2))]
theorem Wd.abs_diff (a b : Int) (h : a < 0 ↔ ¬ b < 0) : -(Wd.abs a * Wd.abs b) = a * b := by
  unfold Wd.abs; by_cases h1 : a < 0
  · rw [if_pos h1, if_neg (h.1 h1), Int.neg_mul, Int.neg_neg]
  · rw [if_neg h1, if_pos (Classical.not_not.1 (fun h2 => h1 (h.2 h2))), Int.mul_neg, Int.neg_neg]

set_option maxHeartbeats 1600000 in
theorem mul_any (a b : Int) (w : World) (ha : Wd.I64 a) (hb : Wd.I64 b) :
    Calls Tryz.prog 292 #[.int .i64 a, .int .i64 b] w fun e w' => e = .returned (.agg #[.int .i64 (Wd.hi (a * b)), .int .u64 (Wd.lo (a * b))]) ∧ Below w.heap.size w w' := by
  cases hd1 : decide (a < 0) <;> cases hd2 : decide (b < 0)
  all_goals
    have h1 := hd1
    have h2 := hd2
    simp only [decide_eq_true_eq, decide_eq_false_iff_not] at h1 h2
    go_enter Tryz.func292, Tryz.ntmps292
    go_wp2_with fail
    refine (size_any a _ ha).mono ?_
    rintro e w1 ⟨rfl, rfl⟩
    go_wp2_with fail
    refine (size_any b _ hb).mono ?_
    rintro e w1 ⟨rfl, rfl⟩
    go_wp2_with fail
    refine (mul0_any _ _ _ (Wd.abs_U64 a ha) (Wd.abs_U64 b hb)).mono ?_
    rintro e w1 ⟨rfl, hb⟩
    have R1 := (Row.new w #[.int .i64 0, .int .u64 0] 329).below hb
    have hB1 := ((Below.refl w.heap.size w).alloc (Nat.le_refl _) _).trans (hb.mono (by simp))
    have k0 : w1.cell? ⟨w.heap.size, 0, none⟩ = some (.int .i64 0) := R1.cell 0
    have k1 : w1.cell? ⟨w.heap.size, 1, none⟩ = some (.int .u64 0) := R1.cell 1
    have f0 := R1.frozen 0
    have f1 := R1.frozen 1
    have hz := R1.lt
    clear hb
    go_wp2_with fail
  · rw [Wd.abs_same a b (by omega)]
    exact bodyPost_ret (v := .agg #[.int .i64 (Wd.hi (a * b)), .int .u64 (Wd.lo (a * b))]) (res_row rfl _ _ (((R1.set 0 _).set 1 _).alloc _) rfl Tryz.underlying329 rfl (by kernel_rfl)) rfl ⟨rfl, below_alloc (below_set (below_set hB1 (Nat.le_refl _) _ _) (Nat.le_refl _) _ _) _⟩
  · refine (neg_any _ _).mono ?_
    rintro e w2 ⟨rfl, hb2⟩
    rw [Wd.abs_diff a b (by omega)]
    have R2 := (R1.alloc _).below hb2
    have hB2 := below_then (below_alloc hB1 _) hb2
    have k0 : w2.cell? ⟨w.heap.size, 0, none⟩ = some (.int .i64 0) := R2.cell 0
    have k1 : w2.cell? ⟨w.heap.size, 1, none⟩ = some (.int .u64 0) := R2.cell 1
    have f0 := R2.frozen 0
    have f1 := R2.frozen 1
    clear hb2
    go_wp2
    exact bodyPost_ret (v := .agg #[.int .i64 (Wd.hi (a * b)), .int .u64 (Wd.lo (a * b))]) (res_row rfl _ _ ((R2.set 0 _).set 1 _) rfl Tryz.underlying329 rfl (by kernel_rfl)) rfl ⟨rfl, below_set (below_set hB2 (Nat.le_refl _) _ _) (Nat.le_refl _) _ _⟩
  · refine (neg_any _ _).mono ?_
    rintro e w2 ⟨rfl, hb2⟩
    rw [Wd.abs_diff a b (by omega)]
    have R2 := (R1.alloc _).below hb2
    have hB2 := below_then (below_alloc hB1 _) hb2
    have k0 : w2.cell? ⟨w.heap.size, 0, none⟩ = some (.int .i64 0) := R2.cell 0
    have k1 : w2.cell? ⟨w.heap.size, 1, none⟩ = some (.int .u64 0) := R2.cell 1
    have f0 := R2.frozen 0
    have f1 := R2.frozen 1
    clear hb2
    go_wp2
    exact bodyPost_ret (v := .agg #[.int .i64 (Wd.hi (a * b)), .int .u64 (Wd.lo (a * b))]) (res_row rfl _ _ ((R2.set 0 _).set 1 _) rfl Tryz.underlying329 rfl (by kernel_rfl)) rfl ⟨rfl, below_set (below_set hB2 (Nat.le_refl _) _ _) (Nat.le_refl _) _ _⟩
  · rw [Wd.abs_same a b (by omega)]
    exact bodyPost_ret (v := .agg #[.int .i64 (Wd.hi (a * b)), .int .u64 (Wd.lo (a * b))]) (res_row rfl _ _ (((R1.set 0 _).set 1 _).alloc _) rfl Tryz.underlying329 rfl (by kernel_rfl)) rfl ⟨rfl, below_alloc (below_set (below_set hB1 (Nat.le_refl _) _ _) (Nat.le_refl _) _ _) _⟩

set_option maxHeartbeats 400000 in
theorem quo_none (a d : Int) (w : World) (h : Wd.hi a < 0 ∨ d ≤ 0 ∨ d ≤ Wd.hi a) (hd : Wd.I64 d) :
    Calls Tryz.prog 286 #[.agg #[.int .i64 (Wd.hi a), .int .u64 (Wd.lo a)], .int .i64 d] w fun e w' => e = .returned (.tuple #[.int .u64 0, .int .u64 0]) ∧ Below w.heap.size w w' := by
  have hh := Wd.hi_bd a
  unfold Wd.I64 at hh hd
  by_cases h1 : Wd.hi a < 0
  · go_enter Tryz.func286, Tryz.ntmps286
    go_wp2
    go_ret2
    exact ⟨rfl, (Below.refl _ _).alloc (Nat.le_refl _) _⟩
  · by_cases h2 : d ≤ 0
    · have h1' : 0 ≤ Wd.hi a := by omega
      go_enter Tryz.func286, Tryz.ntmps286
      go_wp2
      go_ret2
      exact ⟨rfl, (Below.refl _ _).alloc (Nat.le_refl _) _⟩
    · have h1' : 0 ≤ Wd.hi a := by omega
      have h2' : 0 < d := by omega
      have h3 : d ≤ Wd.hi a := by omega
      go_enter Tryz.func286, Tryz.ntmps286
      go_wp2
      go_ret2
      exact ⟨rfl, (Below.refl _ _).alloc (Nat.le_refl _) _⟩


set_option maxHeartbeats 400000 in
theorem quo_any (a d : Nat) (w : World) (h2 : 0 < d) (h3 : a < d * 18446744073709551616) (hd : d < 9223372036854775808) :
    Calls Tryz.prog 286 #[.agg #[.int .i64 (Wd.hi (a : Int)), .int .u64 (Wd.lo (a : Int))], .int .i64 (d : Int)] w fun e w' => e = .returned (.tuple #[.int .u64 ((a / d : Nat) : Int), .int .u64 ((a % d : Nat) : Int)]) ∧ Below w.heap.size w w' := by
  have ha : a < 170141183460469231731687303715884105728 := by omega
  have H0 : a / 18446744073709551616 < d := Nat.div_lt_of_lt_mul (by rw [Nat.mul_comm]; exact h3)
  have ehi := Wd.hi_nat a ha
  rw [ehi, Wd.lo_nat]
  have hl : a % 18446744073709551616 < 18446744073709551616 := by omega
  generalize hh : a / 18446744073709551616 = H at *
  generalize hll : a % 18446744073709551616 = lo at *
  have HH := Lib.hid hh
  have HL := Lib.hid hll
  clear hh hll ehi
  go_enter Tryz.func286, Tryz.ntmps286
  go_wp2
  go_loop [4, 5, 6] (fun q r i => ∃ k : Nat, k ≤ 64 ∧ i = .int .i64 ((k : Int) - 1) ∧ q = .int .u64 ((a / 2 ^ k / d : Nat) : Int) ∧ r = .int .u64 ((a / 2 ^ k % d : Nat) : Int)) (fun _ _ i => (intOf i + 1).toNat)
  case atStart =>
    have e1 : a / 2 ^ 64 = H := HH.out
    exact ⟨64, by omega, rfl, by rw [e1, Nat.div_eq_of_lt H0]; rfl, by rw [e1, Nat.mod_eq_of_lt H0]⟩
  case round =>
    obtain ⟨k, hk, rfl, rfl, rfl⟩ := hrel
    by_cases hlt : 0 < k
    · obtain ⟨j, rfl⟩ : ∃ j, k = j + 1 := ⟨k - 1, by omega⟩
      have hi : (0 : Int) ≤ ((j + 1 : Nat) : Int) - 1 := by omega
      have hi2 : ((j + 1 : Nat) : Int) - 1 < 64 := by omega
      have hq := Wd.quo_bd a d (j + 1) h2 h3 (by omega)
      have hr := Nat.mod_lt (a / 2 ^ (j + 1)) h2
      generalize hQ : a / 2 ^ (j + 1) / d = Q at *
      generalize hR : a / 2 ^ (j + 1) % d = R at *
      have KQ := Lib.hid hQ
      have KR := Lib.hid hR
      clear hQ hR
      have hB := Wd.round_bits a j R lo HL.out (by omega) (by omega)
      have hb2 : a / 2 ^ j % 2 < 2 := by omega
      have KB := Lib.hid hB
      clear hB
      go_wp2
      · have ht : (d : Int) ≤ bits .or .u64 ((R : Int) * 2) (bits .and .u64 ((lo : Int) / 2 ^ j) 1) := by assumption
        rw [KB.out] at ht
        have hs := Wd.quo_round1 a d j Q R h2 KQ.out KR.out (by omega)
        go_round
        case rel => exact ⟨j, by omega, by go_num, by rw [hs.1, Wd.or_one Q hq], by rw [hs.2, KB.out, Wd.wrap_diff _ _ (by omega) (by omega)]⟩
        case measure => simp [intOf]
      · have ht : bits .or .u64 ((R : Int) * 2) (bits .and .u64 ((lo : Int) / 2 ^ j) 1) < (d : Int) := by assumption
        rw [KB.out] at ht
        have hs := Wd.quo_round0 a d j Q R h2 KQ.out KR.out (by omega)
        go_round
        case rel => exact ⟨j, by omega, by go_num, by rw [hs.1]; go_num, by rw [hs.2, KB.out]⟩
        case measure => simp [intOf]
    · have hi : (k : Int) - 1 < 0 := by omega
      have hk0 : k = 0 := by omega
      subst hk0
      go_wp2
      go_ret2
      exact ⟨by simp, (Below.refl _ _).alloc (Nat.le_refl _) _⟩
end Go.Proofs.YtbhjkddjgikaiaaGreatDoor

namespace Go.Proofs.YtbhjkddjgikaiaaGreatDoor
open Go.RowKit
set_option linter.unusedVariables false
set_option linter.unusedSimpArgs false

end Go.Proofs.YtbhjkddjgikaiaaGreatDoor
