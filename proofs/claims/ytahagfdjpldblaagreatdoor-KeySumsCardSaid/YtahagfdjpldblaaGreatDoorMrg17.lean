/-
  Own texts, several in one (QuietS, Sums, Bits).
-/
import Derived.Test.YtahagfdjpldblaaGreatDoorMrg7
import Derived.BigQuiet
import Derived.Test.YtahagfdjpldblaaGreatDoorMrg12
import Derived.Test.YtahagfdjpldblaaGreatDoorMrg14
import Derived.Test.YtahagfdjpldblaaGreatDoorMrg2
import Derived.Test.YtahagfdjpldblaaGreatDoorMrg6
namespace Go.Proofs.YtahagfdjpldblaaGreatDoor
open Go.RowKit
set_option linter.unusedVariables false
set_option linter.unusedSimpArgs false

/-- a world that meets S -/
structure QW (S : World → Prop) where
  w : World
  h : S w
theorem region_quietS {P : Program} {id : Nat} {Q : Exit → Act → World → Prop} {a : Act} {w : World} {l : List Oper} (S : World → Prop) (hm : P.follows .mixedOrders = true) (hB : Region.lexB .any l.toArray = true) (hS : S w.drew)
    (h : Nonempty (QW S) → wpQuiet P l.toArray (fun w' => ∃ n : QW S, w' = n.w) (fun a' => ∀ w', (∃ n : QW S, w' = n.w) → Q .normal a' w') l a) : (Code.region id l.toArray true).wp P Q a w :=
  wp_region_quiet (C := fun w' => ∃ n : QW S, w' = n.w) hm hB ⟨⟨_, hS⟩, rfl⟩ (by simpa using h ⟨⟨_, hS⟩⟩)
/-- a callee's contract in such a world -/
theorem Calls.quietS {P : Program} {f : FuncId} {args : Array Value} {S : World → Prop} {n : QW S} {v : Value}
    (h : Calls P f args n.w fun e w' => e = .returned v ∧ S w') : Calls P f args n.w fun e w'' => e = .returned v ∧ ∃ m : QW S, w'' = m.w :=
  h.mono fun _ w'' ⟨he, hm⟩ => ⟨he, ⟨w'', hm⟩, rfl⟩
end Go.Proofs.YtahagfdjpldblaaGreatDoor

namespace Go.Proofs.YtahagfdjpldblaaGreatDoor
open Go.RowKit Ky
open Go.Maps (Keyed)
set_option linter.unusedVariables false
set_option linter.unusedSimpArgs false

theorem grown_below {w w' : World} {row : Option Nat} (h : Below w.heap.size w w') : w.grownBy w' row := ⟨h.os, h.tape, h.output, h.size, fun k hk _ => h.block k hk⟩
theorem below_grown {w w0 w' : World} {b : Nat} (h0 : Below w.heap.size w w0) (hb : w.heap.size ≤ b) (h : w0.grownBy w' (some b)) : Below w.heap.size w w' :=
  h0.trans ⟨h.os, h.tape, h.output, h.size, fun k hk => h.block k (Nat.lt_of_lt_of_le hk h0.size) (by intro e; injection e with e; omega)⟩
theorem zero_wide (w : World) : (zeroValue 44).run Tryz.prog w = .ok (wval 0) w := by kernel_rfl
set_option maxRecDepth 100000 in
set_option maxHeartbeats 4000000 in
theorem sumsAdd_any (b n : Nat) (G : K → Option Int) (x : K) (hx : x.ok) (z : Int) (hz : Wd.I64 z) (hn : n ≤ 1000) (w : World) (hM : MapIs w Tryz.prog 29 K.val wval b n G) :
    Calls Tryz.prog 7 #[.map (some b), x.val, .int .i64 z] w fun e w' => e = .returned (.tuple #[]) ∧ MapIs w' Tryz.prog 29 K.val wval b (n + 1) (fun d => if d = x then some ((G x).getD 0 + z) else G d) ∧ w.grownBy w' (some b) := by
  obtain ⟨kl, hkey⟩ := key_of x hx
  have hb := hM.lt
  have RX := Row.new w #[.int .u32 (x.a : Int), .int .u16 (x.e : Int), .int .u16 (x.p : Int)] 29
  have hg0 : w.grownBy (w.alloc (.cells #[.int .u32 (x.a : Int), .int .u16 (x.e : Int), .int .u16 (x.p : Int)] 29)) (some b) := World.grownBy_alloc _ _ _
  have hM2 := hM.below (below_alloc (Below.refl _ w) (.cells #[.int .u32 (x.a : Int), .int .u16 (x.e : Int), .int .u16 (x.p : Int)] 29))
  obtain ⟨v0, hv0⟩ : ∃ v0, v0 = (G x).getD 0 := ⟨_, rfl⟩
  have hval : getV wval (wval 0) (G x) = wval v0 := by
    rw [hv0]
    cases h : G x <;> rfl
  rw [← hv0]
  have HL : ∀ W : World, MapIs W Tryz.prog 29 K.val wval b n G → (Instr.lookup 25 (.map (some b)) (.agg #[.int .u32 (x.a : Int), .int .u16 (x.e : Int), .int .u16 (x.p : Int)]) false).run Tryz.prog W = .ok (.agg #[.int .i64 (Wd.hi (v0)), .int .u64 (Wd.lo (v0))]) W := fun W h => by
    have h := MapIs.look (enc := K.val) (vl := wval) (G := G) (n := n) (e := 44) (t := 25) h (Keyed.of_law lawKey) Tryz.underlying25 val_inj (zero_wide W) x hkey
    rw [hval] at h
    exact h
  have HU : ∀ W : World, MapIs W Tryz.prog 29 K.val wval b n G → ∃ w', (Instr.mapUpdate 25 (.map (some b)) (.agg #[.int .u32 (x.a : Int), .int .u16 (x.e : Int), .int .u16 (x.p : Int)]) (.agg #[.int .i64 (Wd.hi (v0 + z)), .int .u64 (Wd.lo (v0 + z))])).run Tryz.prog W = .ok () w' ∧ MapIs w' Tryz.prog 29 K.val wval b (n + 1) (fun d => if d = x then some (v0 + z) else G d) ∧ W.grownBy w' (some b) := fun W h =>
    MapIs.store h (Keyed.of_law lawKey) Tryz.underlying25 val_inj (by unfold maxLen; omega) x (v0 + z) hkey
  have HG0 := Lib.hid hg0
  have HM2 := Lib.hid hM2
  have HZ := Lib.hid hz
  clear hM hkey hval hz hn hx hg0 hM2 hv0
  have hne : ∀ W : World, (Go.binOp BinOp.neq 25 (.map (some b)) (.map none)).run Tryz.prog W = .ok (.bool true) W := fun W => by kernel_rfl
  unfold K.val
  go_enter Tryz.func7, Tryz.ntmps7
  go_wp2_with fail
  obtain ⟨gx, hgx⟩ : ∃ g, g = w.heap.size := ⟨_, rfl⟩
  rw [← hgx] at RX ⊢
  generalize w.alloc (.cells #[.int .u32 (x.a : Int), .int .u16 (x.e : Int), .int .u16 (x.p : Int)] 29) = w2 at *
  have hbx : b ≠ gx := by omega
  clear hgx hb hne
  have LX : ∀ w', w2.grownBy w' (some b) → w'.rangeAt gx 0 [.int .u32 (x.a : Int), .int .u16 (x.e : Int), .int .u16 (x.p : Int)] := fun w' h j v hv => by
    rw [Nat.zero_add, Row.cell (show Row w' gx _ _ from (h.block gx RX.lt (by intro e; injection e with e; omega)).trans RX) j]
    simpa using hv
  refine region_lits1 (n := 9) 8 4 (by kernel_rfl) (fun c' w' => w2.grownBy w' (some b) ∧ MapIs w' Tryz.prog 29 K.val wval b (if c' then n + 1 else n) (if c' then (fun d => if d = x then some (v0 + z) else G d) else G)) (fun i => (#[.map (some b), .agg #[.int .u32 (x.a : Int), .int .u16 (x.e : Int), .int .u16 (x.p : Int)], .map (some b), .agg #[.int .u32 (x.a : Int), .int .u16 (x.e : Int), .int .u16 (x.p : Int)], .agg #[.int .i64 (Wd.hi (v0)), .int .u64 (Wd.lo (v0))], .int .i64 z, .agg #[.int .i64 (Wd.hi (z)), .int .u64 (Wd.lo (z))], .agg #[.int .i64 (Wd.hi (v0 + z)), .int .u64 (Wd.lo (v0 + z))], undef] : Array Value).getD i undef) (by kernel_rfl) (by kernel_rfl) ⟨⟨rfl, rfl, rfl, Nat.le_refl _, fun _ _ _ => rfl⟩, HM2.out⟩ rfl ?_
  intro F hF
  simp only [fill, if_true, dstAt] at hF
  simp [Act.put] at hF
  subst hF
  refine ⟨?_, ?_⟩
  · intro i o ho c wx hcm S
    rcases i with _ | _ | _ | _ | _ | _ | _ | _ | _ | i
    all_goals (first | (simp at ho; done) | (obtain rfl := Option.some.inj ho))
    · exact yv_val rfl S (by go_simp)
    · exact yv_load rfl S _ _ rfl gx 0 rfl (LX _ S.1) Tryz.underlying29 rfl (by kernel_rfl)
    · exact yv_val rfl S (by go_simp)
    · exact yv_load rfl S _ _ rfl gx 0 rfl (LX _ S.1) Tryz.underlying29 rfl (by kernel_rfl)
    · obtain rfl : c = false := hcm (by kernel_rfl)
      have hl := HL wx S.2
      exact yv_val rfl S (by go_simp)
    · exact yv_val rfl S (by go_simp)
    · exact yv_call rfl rfl Tryz.func25 (by kernel_rfl) rfl #[.int .i64 z] (by go_simp) ((of_any z HZ.out wx).mono (by rintro _ wy ⟨rfl, hb⟩; exact ⟨rfl, S.1.trans (grown_below hb), S.2.below hb⟩))
    · exact yv_call rfl rfl Tryz.func24 (by kernel_rfl) rfl #[.agg #[.int .i64 (Wd.hi (v0)), .int .u64 (Wd.lo (v0))], .agg #[.int .i64 (Wd.hi (z)), .int .u64 (Wd.lo (z))]] (by go_simp) ((add_any v0 z wx).mono (by rintro _ wy ⟨rfl, hb⟩; exact ⟨rfl, S.1.trans (grown_below hb), S.2.below hb⟩))
    · obtain rfl : c = false := hcm (by kernel_rfl)
      obtain ⟨w', hr, hM', hg⟩ := HU wx S.2
      exact yv_skip rfl ⟨S.1.trans hg, hM'⟩ (by go_simp)
  · intro wy S
    simp only [if_true] at S
    have hz := S.2
    have hj := HG0.out.trans S.1
    clear LX HL HU S
    go_wp2
    go_end0
    exact ⟨rfl, hz, hj⟩
theorem sumsAdd_none (x : K) (z : Int) (w : World) : Calls Tryz.prog 7 #[.map none, x.val, .int .i64 z] w fun e w' => e = .returned (.tuple #[]) ∧ Below w.heap.size w w' := by
  have hne : ∀ W : World, (Go.binOp BinOp.neq 25 (.map none) (.map none)).run Tryz.prog W = .ok (.bool false) W := fun W => by kernel_rfl
  unfold K.val
  go_enter Tryz.func7, Tryz.ntmps7
  go_wp2
  go_end0
  exact ⟨rfl, below_alloc (Below.refl _ w) _⟩
end Go.Proofs.YtahagfdjpldblaaGreatDoor

namespace Go.Proofs.YtahagfdjpldblaaGreatDoor
open Go.RowKit
set_option linter.unusedVariables false
set_option linter.unusedSimpArgs false

/-- bit i of m -/
def bit (m i : Nat) : Int := ((m / 2 ^ i % 2 : Nat) : Int)
/-- m's lowest 128 bits as cells -/
def bv (m : Nat) : Array Value := vec 128 (bit m)
/-- a whole number as one of 128 bits without a sign -/
def u128 (n : Int) : Nat := (n % 340282366920938463463374607431768211456).toNat
theorem u128_lt (n : Int) : u128 n < 2 ^ 128 := by unfold u128; omega
theorem bit_bd (m i : Nat) : 0 ≤ bit m i ∧ bit m i ≤ 1 := by unfold bit; omega

/-- bits below 128 don't hang on what is above -/
theorem mod_bit (m k i : Nat) (h : i < k) : m % 2 ^ k / 2 ^ i % 2 = m / 2 ^ i % 2 := by
  have e : 2 ^ k = 2 ^ i * (2 * 2 ^ (k - i - 1)) := by
    rw [← Nat.mul_assoc, Nat.mul_comm (2 ^ i) 2, Nat.mul_assoc, ← Nat.pow_add, ← Nat.pow_succ', show (i + (k - i - 1)).succ = k by omega]
  rw [e, Nat.mod_mul_right_div_self, Nat.mod_mul_right_mod]
theorem bv_mod (m : Nat) : bv (m % 2 ^ 128) = bv m := vec_congr fun i h => by unfold bit; rw [mod_bit m 128 i h]
theorem bv_eq {a b : Nat} (h : a % 2 ^ 128 = b % 2 ^ 128) : bv a = bv b := by rw [← bv_mod a, ← bv_mod b, h]

/-- a number's lowest k+1 bits -/
theorem mod_succ (m k : Nat) : m % 2 ^ (k + 1) = m % 2 ^ k + 2 ^ k * (m / 2 ^ k % 2) := by rw [Nat.pow_succ, Nat.mod_mul]

/-- what is carried behind k bits of a sum -/
def carry (a b k : Nat) : Nat := (a % 2 ^ k + b % 2 ^ k) / 2 ^ k
theorem carry_zero (a b : Nat) : carry a b 0 = 0 := by unfold carry; simp [Nat.mod_one]
theorem carry_bd (a b k : Nat) : carry a b k < 2 := by
  unfold carry
  have h1 := Nat.mod_lt a (Nat.two_pow_pos k)
  have h2 := Nat.mod_lt b (Nat.two_pow_pos k)
  exact Nat.div_lt_of_lt_mul (by omega)
theorem carry_succ (a b k : Nat) : carry a b (k + 1) = (a / 2 ^ k % 2 + b / 2 ^ k % 2 + carry a b k) / 2 := by
  unfold carry
  rw [mod_succ, mod_succ, Nat.pow_succ, ← Nat.div_div_eq_div_mul]
  have h : (a % 2 ^ k + 2 ^ k * (a / 2 ^ k % 2) + (b % 2 ^ k + 2 ^ k * (b / 2 ^ k % 2))) / 2 ^ k = (a % 2 ^ k + b % 2 ^ k) / 2 ^ k + (a / 2 ^ k % 2 + b / 2 ^ k % 2) := by
    rw [show a % 2 ^ k + 2 ^ k * (a / 2 ^ k % 2) + (b % 2 ^ k + 2 ^ k * (b / 2 ^ k % 2)) = (a % 2 ^ k + b % 2 ^ k) + 2 ^ k * (a / 2 ^ k % 2 + b / 2 ^ k % 2) by rw [Nat.mul_add]; omega,
      Nat.add_mul_div_left _ _ (Nat.two_pow_pos k)]
  rw [h]; congr 1; omega
theorem sum_bit (a b k : Nat) : (a + b) / 2 ^ k % 2 = (a / 2 ^ k % 2 + b / 2 ^ k % 2 + carry a b k) % 2 := by
  have ea := Nat.div_add_mod a (2 ^ k)
  have eb := Nat.div_add_mod b (2 ^ k)
  have h : (a + b) / 2 ^ k = a / 2 ^ k + b / 2 ^ k + carry a b k := by
    unfold carry
    rw [show a + b = (a % 2 ^ k + b % 2 ^ k) + 2 ^ k * (a / 2 ^ k + b / 2 ^ k) by rw [Nat.mul_add]; omega, Nat.add_mul_div_left _ _ (Nat.two_pow_pos k)]
    omega
  rw [h]; omega

/-- all bits turned -/
theorem turned_bit (m k i : Nat) (hm : m < 2 ^ k) (hi : i < k) : (2 ^ k - 1 - m) / 2 ^ i % 2 = 1 - m / 2 ^ i % 2 := by
  have e : 2 ^ k = 2 ^ i * 2 ^ (k - i) := by rw [← Nat.pow_add, show i + (k - i) = k by omega]
  have e2 : 2 ^ (k - i) = 2 * 2 ^ (k - i - 1) := by rw [← Nat.pow_succ', show (k - i - 1).succ = k - i by omega]
  have ed := Nat.div_add_mod m (2 ^ i)
  have hl := Nat.mod_lt m (Nat.two_pow_pos i)
  have hq : m / 2 ^ i < 2 ^ (k - i) := Nat.div_lt_of_lt_mul (by rw [← e]; exact hm)
  have h : (2 ^ k - 1 - m) / 2 ^ i = 2 ^ (k - i) - 1 - m / 2 ^ i := by
    apply Nat.div_eq_of_lt_le
    · have : (2 ^ (k - i) - 1 - m / 2 ^ i) * 2 ^ i + 2 ^ i * (m / 2 ^ i) + 2 ^ i = 2 ^ k := by
        rw [Nat.mul_comm _ (2 ^ i), ← Nat.mul_add, e]
        have : 2 ^ (k - i) - 1 - m / 2 ^ i + m / 2 ^ i + 1 = 2 ^ (k - i) := by omega
        conv => rhs; rw [← this]
        rw [Nat.mul_add (2 ^ i) _ 1, Nat.mul_one]
      omega
    · have : (2 ^ (k - i) - 1 - m / 2 ^ i + 1) * 2 ^ i + 2 ^ i * (m / 2 ^ i) = 2 ^ k := by
        rw [Nat.mul_comm _ (2 ^ i), ← Nat.mul_add, e]
        congr 1; omega
      omega
  rw [h, e2]
  generalize 2 ^ (k - i - 1) = y at *
  omega
/-- a number, moved by i bits -/
theorem moved_bit (a i k : Nat) (h : i ≤ k) : a * 2 ^ i / 2 ^ k % 2 = a / 2 ^ (k - i) % 2 := by
  rw [show 2 ^ k = 2 ^ i * 2 ^ (k - i) by rw [← Nat.pow_add, show i + (k - i) = k by omega], Nat.mul_comm a, Nat.mul_div_mul_left _ _ (Nat.two_pow_pos i)]
theorem moved_low (a i k : Nat) (h : k < i) : a * 2 ^ i / 2 ^ k % 2 = 0 := by
  rw [show 2 ^ i = 2 ^ k * (2 * 2 ^ (i - k - 1)) by rw [← Nat.mul_assoc, Nat.mul_comm (2 ^ k) 2, Nat.mul_assoc, ← Nat.pow_add, ← Nat.pow_succ', show (k + (i - k - 1)).succ = i by omega],
    Nat.mul_left_comm, Nat.mul_div_cancel_left _ (Nat.two_pow_pos k), Nat.mul_left_comm]
  omega
/-- bits of a number out of its halves -/
theorem num_bit_lo (h l : Int) (hl : Wd.U64 l) (i : Nat) (hi : i < 64) : bit (u128 (Wd.num h l)) i = l / 2 ^ i % 2 := by
  unfold Wd.U64 at hl
  obtain ⟨n, rfl⟩ := Int.eq_ofNat_of_zero_le hl.1
  have e : u128 (Wd.num h n) % 2 ^ 64 = n := by unfold u128 Wd.num; omega
  unfold bit
  rw [← mod_bit _ 64 i hi, e]
  simp
theorem num_bit_hi (h l : Int) (hh : Wd.I64 h) (hl : Wd.U64 l) (i : Nat) (hi : i < 64) : bit (u128 (Wd.num h l)) (64 + i) = IntKind.u64.wrap h / 2 ^ i % 2 := by
  unfold Wd.U64 at hl
  obtain ⟨n, hn⟩ := Int.eq_ofNat_of_zero_le (a := IntKind.u64.wrap h) (by rw [IntKind.wrap_u64]; omega)
  have e : u128 (Wd.num h l) / 2 ^ 64 = n := by rw [IntKind.wrap_u64] at hn; unfold u128 Wd.num; omega
  unfold bit
  rw [Nat.pow_add, ← Nat.div_div_eq_div_mul, e, hn]
  simp
/-- a sum of bits, one more -/
theorem sum_low (m k : Nat) (hk : k < 64) : IntKind.u64.wrap (((m % 2 ^ k : Nat) : Int) + IntKind.u64.wrap (bit m k * 2 ^ k)) = ((m % 2 ^ (k + 1) : Nat) : Int) := by
  have h1 := Nat.mod_lt m (Nat.two_pow_pos k)
  have h2 := Nat.mod_lt m (Nat.two_pow_pos (k + 1))
  have h3 : 2 ^ (k + 1) ≤ 2 ^ 64 := Nat.pow_le_pow_right (by omega) (by omega)
  have h4 := mod_succ m k
  have e : bit m k * 2 ^ k = ((2 ^ k * (m / 2 ^ k % 2) : Nat) : Int) := by unfold bit; rw [Int.mul_comm]; simp
  rw [e, IntKind.wrap_u64, IntKind.wrap_u64]
  omega
theorem bit_high (m k : Nat) : bit m (64 + k) = bit (m / 2 ^ 64) k := by
  unfold bit
  rw [Nat.pow_add, ← Nat.div_div_eq_div_mul]
theorem neg_bit (a i : Nat) (ha : a < 2 ^ 128) (hi : i < 128) : 1 - bit a i = bit (2 ^ 128 - 1 - a) i := by
  unfold bit; rw [turned_bit a 128 i ha hi]; omega
theorem bit_one (i : Nat) : bit 1 i = if i = 0 then 1 else 0 := by
  unfold bit
  by_cases e : i = 0
  · subst e; rfl
  · have : 1 / 2 ^ i = 0 := Nat.div_eq_of_lt (by have := Nat.pow_le_pow_right (n := 2) (by omega) (show 1 ≤ i by omega); omega)
    rw [this, if_neg e]; rfl
theorem moved_start (a k i : Nat) : (0 : Int) = if i < k then bit (a * 2 ^ k) i else 0 := by
  by_cases e : i < k
  · rw [if_pos e]; unfold bit; rw [moved_low a k i e]; rfl
  · rw [if_neg e]
end Go.Proofs.YtahagfdjpldblaaGreatDoor
