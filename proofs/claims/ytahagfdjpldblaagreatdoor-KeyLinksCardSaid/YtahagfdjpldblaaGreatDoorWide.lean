/-
  What the functions of package wide come to, as the machine runs them: on whole numbers.
-/
import Derived.Test.YtahagfdjpldblaaGreatDoorProg
import Derived.Test.YtahagfdjpldblaaGreatDoorMath1
import Derived.Test.YtahagfdjpldblaaGreatDoorKit
import Derived.Deep.QuietTactic
import Derived.BigQuiet
import Derived.Deep.RegionHeld3
namespace Go.Proofs.YtahagfdjpldblaaGreatDoor
open Go.RowKit
set_option linter.unusedVariables false
set_option linter.unusedSimpArgs false

set_option maxHeartbeats 400000 in
theorem add_any (a b : Int) (w : World) :
    Calls Tryz.prog 24 #[.agg #[.int .i64 (Wd.hi a), .int .u64 (Wd.lo a)], .agg #[.int .i64 (Wd.hi b), .int .u64 (Wd.lo b)]] w fun e w' => e = .returned (.agg #[.int .i64 (Wd.hi (a + b)), .int .u64 (Wd.lo (a + b))]) ∧ Below w.heap.size w w' := by
  go_enter Tryz.func24, Tryz.ntmps24
  go_wp2
  · have h : IntKind.u64.wrap (Wd.lo a + Wd.lo b) < Wd.lo a := by assumption
    refine bodyPost_ret (v := .agg #[.int .i64 (Wd.hi (a + b)), .int .u64 (Wd.lo (a + b))]) (by simp [results, Tryz.results24, go_sem, Wd.add_hi1 a b h, Wd.add_lo]) rfl ⟨rfl, ?_⟩
    exact (((Below.refl _ _).alloc (Nat.le_refl _) _).alloc (by simp) _).alloc (by simp; omega) _
  · have h : Wd.lo a ≤ IntKind.u64.wrap (Wd.lo a + Wd.lo b) := by assumption
    refine bodyPost_ret (v := .agg #[.int .i64 (Wd.hi (a + b)), .int .u64 (Wd.lo (a + b))]) (by simp [results, Tryz.results24, go_sem, Wd.add_hi0 a b h, Wd.add_lo]) rfl ⟨rfl, ?_⟩
    exact (((Below.refl _ _).alloc (Nat.le_refl _) _).alloc (by simp) _).alloc (by simp; omega) _

/-- the same, for arguments that are spelled otherwise -/
theorem add_at {ah al bh bl : Int} (a b : Int) (h1 : ah = Wd.hi a) (h2 : al = Wd.lo a) (h3 : bh = Wd.hi b) (h4 : bl = Wd.lo b) (w : World) :
    Calls Tryz.prog 24 #[.agg #[.int .i64 ah, .int .u64 al], .agg #[.int .i64 bh, .int .u64 bl]] w fun e w' => e = .returned (.agg #[.int .i64 (Wd.hi (a + b)), .int .u64 (Wd.lo (a + b))]) ∧ Below w.heap.size w w' := by
  subst h1 h2 h3 h4; exact add_any a b w

def Wd.cmp (a b : Int) : Int := if Wd.hi a = Wd.hi b ∧ Wd.lo a = Wd.lo b then 0 else if Wd.hi a < Wd.hi b ∨ (Wd.hi a = Wd.hi b ∧ Wd.lo a < Wd.lo b) then -1 else 1
set_option maxHeartbeats 400000 in
theorem neg_any (a : Int) (w : World) :
    Calls Tryz.prog 103 #[.agg #[.int .i64 (Wd.hi a), .int .u64 (Wd.lo a)]] w fun e w' => e = .returned (.agg #[.int .i64 (Wd.hi (-a)), .int .u64 (Wd.lo (-a))]) ∧ Below w.heap.size w w' := by
  go_enter Tryz.func103, Tryz.ntmps103
  go_wp2_with fail
  refine (add_at (-1 - a) 1 ?_ ?_ ?_ ?_ _).mono ?_
  · rw [Wd.not_i64 _ (Wd.hi_bd a), Wd.not_hi]
  · rw [Wd.not_u64' _ (Wd.lo_bd a), Wd.not_lo]
  · unfold Wd.hi wrap64; rfl
  · unfold Wd.lo; rfl
  rintro e w1 ⟨rfl, hb⟩
  rw [show -1 - a + 1 = -a from by omega]
  obtain ⟨hc, hf⟩ := bcell hb
  have hz : w.heap.size + 1 < w1.heap.size := by have := hb.size; simp at this; omega
  go_wp2
  refine bodyPost_ret (v := .agg #[.int .i64 (Wd.hi (-a)), .int .u64 (Wd.lo (-a))]) (by simp [results, Tryz.results103, go_sem, hc, hz]) rfl ⟨rfl, ?_⟩
  exact (((((Below.refl _ _).alloc (Nat.le_refl _) _).alloc (by simp) _).trans (hb.mono (by simp; omega))).setCell (by simp) _).setCell (by simp) _

set_option maxHeartbeats 400000 in
theorem of_any (n : Int) (h : Wd.I64 n) (w : World) :
    Calls Tryz.prog 25 #[.int .i64 n] w fun e w' => e = .returned (.agg #[.int .i64 (Wd.hi n), .int .u64 (Wd.lo n)]) ∧ Below w.heap.size w w' := by
  go_enter Tryz.func25, Tryz.ntmps25
  go_wp2
  refine bodyPost_ret (v := .agg #[.int .i64 (Wd.hi n), .int .u64 (Wd.lo n)]) (by simp [results, Tryz.results25, go_sem, Wd.of_hi n h, Wd.of_lo]) rfl ⟨rfl, ?_⟩
  exact (Below.refl _ _).alloc (Nat.le_refl _) _


theorem Wd.wrap_I64 (n : Int) : Wd.I64 (wrap64 n) := by unfold Wd.I64 wrap64; omega
theorem Wd.lo_wrap (a : Int) : Wd.lo (wrap64 (Wd.lo a)) = Wd.lo a := by unfold Wd.lo wrap64; omega
set_option maxHeartbeats 400000 in
theorem mul0_any (a b : Int) (w : World) (ha : Wd.U64 a) (hb : Wd.U64 b) :
    Calls Tryz.prog 102 #[.int .u64 a, .int .u64 b] w fun e w' => e = .returned (.agg #[.int .i64 (Wd.hi (a * b)), .int .u64 (Wd.lo (a * b))]) ∧ Below w.heap.size w w' := by
  have hm := Wd.mul_halves a b ha hb
  unfold Wd.mhi Wd.mlo Wd.mz Wd.my Wd.mx at hm
  have H := Lib.hid hm
  clear hm
  go_enter Tryz.func102, Tryz.ntmps102
  go_wp2
  obtain ⟨h1, h2⟩ := H.out
  refine bodyPost_ret (v := .agg #[.int .i64 (Wd.hi (a * b)), .int .u64 (Wd.lo (a * b))]) (by simp [results, Tryz.results102, go_sem]; exact ⟨h1, h2⟩) rfl ⟨rfl, ?_⟩
  exact (Below.refl _ _).alloc (Nat.le_refl _) _

set_option maxHeartbeats 400000 in
theorem size_neg (a : Int) (w : World) (h : Wd.I64 a) (hn : a < 0) :
    Calls Tryz.prog 52 #[.int .i64 a] w fun e w' => e = .returned (.int .u64 (-a)) ∧ w = w' := by
  unfold Wd.I64 at h
  have e : IntKind.u64.wrap (-IntKind.u64.wrap a) = -a := by simp only [IntKind.wrap_u64]; omega
  have H := Lib.hid e
  clear e
  go_enter Tryz.func52, Tryz.ntmps52
  go_wp2
  go_ret
  exact ⟨ret_int (k := .u64) H.out, rfl⟩
set_option maxHeartbeats 400000 in
theorem size_pos (a : Int) (w : World) (h : Wd.I64 a) (hn : 0 ≤ a) :
    Calls Tryz.prog 52 #[.int .i64 a] w fun e w' => e = .returned (.int .u64 a) ∧ w = w' := by
  unfold Wd.I64 at h
  have e : IntKind.u64.wrap a = a := by simp only [IntKind.wrap_u64]; omega
  have H := Lib.hid e
  clear e
  go_enter Tryz.func52, Tryz.ntmps52
  go_wp2
  go_ret
  exact ⟨rfl, rfl⟩
def Wd.abs (a : Int) : Int := if a < 0 then -a else a
theorem size_any (a : Int) (w : World) (h : Wd.I64 a) :
    Calls Tryz.prog 52 #[.int .i64 a] w fun e w' => e = .returned (.int .u64 (Wd.abs a)) ∧ w = w' := by
  unfold Wd.abs
  by_cases hn : a < 0
  · rw [if_pos hn]; exact size_neg a w h hn
  · rw [if_neg hn]; exact size_pos a w h (by omega)
theorem Wd.abs_U64 (a : Int) (h : Wd.I64 a) : Wd.U64 (Wd.abs a) := by unfold Wd.abs Wd.U64; unfold Wd.I64 at h; split <;> omega


theorem Wd.abs_same (a b : Int) (h : a < 0 ↔ b < 0) : Wd.abs a * Wd.abs b = a * b := by
  unfold Wd.abs; by_cases h1 : a < 0
  · rw [if_pos h1, if_pos (h.1 h1), Int.neg_mul_neg]
  · rw [if_neg h1, if_neg (fun h2 => h1 (h.2 h2))]
theorem Wd.abs_diff (a b : Int) (h : a < 0 ↔ ¬ b < 0) : -(Wd.abs a * Wd.abs b) = a * b := by
  unfold Wd.abs; by_cases h1 : a < 0
  · rw [if_pos h1, if_neg (h.1 h1), Int.neg_mul, Int.neg_neg]
  · rw [if_neg h1, if_pos (Classical.not_not.1 (fun h2 => h1 (h.2 h2))), Int.mul_neg, Int.neg_neg]

set_option maxHeartbeats 1600000 in
theorem mul_any (a b : Int) (w : World) (ha : Wd.I64 a) (hb : Wd.I64 b) :
    Calls Tryz.prog 84 #[.int .i64 a, .int .i64 b] w fun e w' => e = .returned (.agg #[.int .i64 (Wd.hi (a * b)), .int .u64 (Wd.lo (a * b))]) ∧ Below w.heap.size w w' := by
  cases hd1 : decide (a < 0) <;> cases hd2 : decide (b < 0)
  all_goals
    have h1 := hd1
    have h2 := hd2
    simp only [decide_eq_true_eq, decide_eq_false_iff_not] at h1 h2
    go_enter Tryz.func84, Tryz.ntmps84
    go_wp2_with fail
    refine (size_any a _ ha).mono ?_
    rintro e w1 ⟨rfl, rfl⟩
    go_wp2_with fail
    refine (size_any b _ hb).mono ?_
    rintro e w1 ⟨rfl, rfl⟩
    go_wp2_with fail
    refine (mul0_any _ _ _ (Wd.abs_U64 a ha) (Wd.abs_U64 b hb)).mono ?_
    rintro e w1 ⟨rfl, hb⟩
    have R1 := (Row.new w #[.int .i64 0, .int .u64 0] 44).below hb
    have hB1 := ((Below.refl w.heap.size w).alloc (Nat.le_refl _) _).trans (hb.mono (by simp))
    have k0 : w1.cell? ⟨w.heap.size, 0, none⟩ = some (.int .i64 0) := R1.cell 0
    have k1 : w1.cell? ⟨w.heap.size, 1, none⟩ = some (.int .u64 0) := R1.cell 1
    have f0 := R1.frozen 0
    have f1 := R1.frozen 1
    have hz := R1.lt
    clear hb
    go_wp2_with fail
  · rw [Wd.abs_same a b (by omega)]
    exact bodyPost_ret (v := .agg #[.int .i64 (Wd.hi (a * b)), .int .u64 (Wd.lo (a * b))]) (res_row rfl _ _ (((R1.set 0 _).set 1 _).alloc _) rfl Tryz.underlying44 rfl (by kernel_rfl)) rfl ⟨rfl, below_alloc (below_set (below_set hB1 (Nat.le_refl _) _ _) (Nat.le_refl _) _ _) _⟩
  · refine (neg_any _ _).mono ?_
    rintro e w2 ⟨rfl, hb2⟩
    rw [Wd.abs_diff a b (by omega)]
    have R2 := (R1.alloc _).below hb2
    have hB2 := below_then (below_alloc hB1 _) hb2
    have k0 : w2.cell? ⟨w.heap.size, 0, none⟩ = some (.int .i64 0) := R2.cell 0
    have k1 : w2.cell? ⟨w.heap.size, 1, none⟩ = some (.int .u64 0) := R2.cell 1
    have f0 := R2.frozen 0
    have f1 := R2.frozen 1
    clear hb2
    go_wp2
    exact bodyPost_ret (v := .agg #[.int .i64 (Wd.hi (a * b)), .int .u64 (Wd.lo (a * b))]) (res_row rfl _ _ ((R2.set 0 _).set 1 _) rfl Tryz.underlying44 rfl (by kernel_rfl)) rfl ⟨rfl, below_set (below_set hB2 (Nat.le_refl _) _ _) (Nat.le_refl _) _ _⟩
  · refine (neg_any _ _).mono ?_
    rintro e w2 ⟨rfl, hb2⟩
    rw [Wd.abs_diff a b (by omega)]
    have R2 := (R1.alloc _).below hb2
    have hB2 := below_then (below_alloc hB1 _) hb2
    have k0 : w2.cell? ⟨w.heap.size, 0, none⟩ = some (.int .i64 0) := R2.cell 0
    have k1 : w2.cell? ⟨w.heap.size, 1, none⟩ = some (.int .u64 0) := R2.cell 1
    have f0 := R2.frozen 0
    have f1 := R2.frozen 1
    clear hb2
    go_wp2
    exact bodyPost_ret (v := .agg #[.int .i64 (Wd.hi (a * b)), .int .u64 (Wd.lo (a * b))]) (res_row rfl _ _ ((R2.set 0 _).set 1 _) rfl Tryz.underlying44 rfl (by kernel_rfl)) rfl ⟨rfl, below_set (below_set hB2 (Nat.le_refl _) _ _) (Nat.le_refl _) _ _⟩
  · rw [Wd.abs_same a b (by omega)]
    exact bodyPost_ret (v := .agg #[.int .i64 (Wd.hi (a * b)), .int .u64 (Wd.lo (a * b))]) (res_row rfl _ _ (((R1.set 0 _).set 1 _).alloc _) rfl Tryz.underlying44 rfl (by kernel_rfl)) rfl ⟨rfl, below_alloc (below_set (below_set hB1 (Nat.le_refl _) _ _) (Nat.le_refl _) _ _) _⟩

set_option maxHeartbeats 400000 in
theorem quo_none (a d : Int) (w : World) (h : Wd.hi a < 0 ∨ d ≤ 0 ∨ d ≤ Wd.hi a) (hd : Wd.I64 d) :
    Calls Tryz.prog 53 #[.agg #[.int .i64 (Wd.hi a), .int .u64 (Wd.lo a)], .int .i64 d] w fun e w' => e = .returned (.tuple #[.int .u64 0, .int .u64 0]) ∧ Below w.heap.size w w' := by
  have hh := Wd.hi_bd a
  unfold Wd.I64 at hh hd
  by_cases h1 : Wd.hi a < 0
  · go_enter Tryz.func53, Tryz.ntmps53
    go_wp2
    go_ret2
    exact ⟨rfl, (Below.refl _ _).alloc (Nat.le_refl _) _⟩
  · by_cases h2 : d ≤ 0
    · have h1' : 0 ≤ Wd.hi a := by omega
      go_enter Tryz.func53, Tryz.ntmps53
      go_wp2
      go_ret2
      exact ⟨rfl, (Below.refl _ _).alloc (Nat.le_refl _) _⟩
    · have h1' : 0 ≤ Wd.hi a := by omega
      have h2' : 0 < d := by omega
      have h3 : d ≤ Wd.hi a := by omega
      go_enter Tryz.func53, Tryz.ntmps53
      go_wp2
      go_ret2
      exact ⟨rfl, (Below.refl _ _).alloc (Nat.le_refl _) _⟩


set_option maxHeartbeats 400000 in
theorem quo_any (a d : Nat) (w : World) (h2 : 0 < d) (h3 : a < d * 18446744073709551616) (hd : d < 9223372036854775808) :
    Calls Tryz.prog 53 #[.agg #[.int .i64 (Wd.hi (a : Int)), .int .u64 (Wd.lo (a : Int))], .int .i64 (d : Int)] w fun e w' => e = .returned (.tuple #[.int .u64 ((a / d : Nat) : Int), .int .u64 ((a % d : Nat) : Int)]) ∧ Below w.heap.size w w' := by
  have ha : a < 170141183460469231731687303715884105728 := by omega
  have H0 : a / 18446744073709551616 < d := Nat.div_lt_of_lt_mul (by rw [Nat.mul_comm]; exact h3)
  have ehi := Wd.hi_nat a ha
  rw [ehi, Wd.lo_nat]
  have hl : a % 18446744073709551616 < 18446744073709551616 := by omega
  generalize hh : a / 18446744073709551616 = H at *
  generalize hll : a % 18446744073709551616 = lo at *
  have HH := Lib.hid hh
  have HL := Lib.hid hll
  clear hh hll ehi
  go_enter Tryz.func53, Tryz.ntmps53
  go_wp2
  go_loop [4, 5, 6] (fun q r i => ∃ k : Nat, k ≤ 64 ∧ i = .int .i64 ((k : Int) - 1) ∧ q = .int .u64 ((a / 2 ^ k / d : Nat) : Int) ∧ r = .int .u64 ((a / 2 ^ k % d : Nat) : Int)) (fun _ _ i => (intOf i + 1).toNat)
  case atStart =>
    have e1 : a / 2 ^ 64 = H := HH.out
    exact ⟨64, by omega, rfl, by rw [e1, Nat.div_eq_of_lt H0]; rfl, by rw [e1, Nat.mod_eq_of_lt H0]⟩
  case round =>
    obtain ⟨k, hk, rfl, rfl, rfl⟩ := hrel
    by_cases hlt : 0 < k
    · obtain ⟨j, rfl⟩ : ∃ j, k = j + 1 := ⟨k - 1, by omega⟩
      have hi : (0 : Int) ≤ ((j + 1 : Nat) : Int) - 1 := by omega
      have hi2 : ((j + 1 : Nat) : Int) - 1 < 64 := by omega
      have hq := Wd.quo_bd a d (j + 1) h2 h3 (by omega)
      have hr := Nat.mod_lt (a / 2 ^ (j + 1)) h2
      generalize hQ : a / 2 ^ (j + 1) / d = Q at *
      generalize hR : a / 2 ^ (j + 1) % d = R at *
      have KQ := Lib.hid hQ
      have KR := Lib.hid hR
      clear hQ hR
      have hB := Wd.round_bits a j R lo HL.out (by omega) (by omega)
      have hb2 : a / 2 ^ j % 2 < 2 := by omega
      have KB := Lib.hid hB
      clear hB
      go_wp2
      · have ht : (d : Int) ≤ bits .or .u64 ((R : Int) * 2) (bits .and .u64 ((lo : Int) / 2 ^ j) 1) := by assumption
        rw [KB.out] at ht
        have hs := Wd.quo_round1 a d j Q R h2 KQ.out KR.out (by omega)
        go_round
        case rel => exact ⟨j, by omega, by go_num, by rw [hs.1, Wd.or_one Q hq], by rw [hs.2, KB.out, Wd.wrap_diff _ _ (by omega) (by omega)]⟩
        case measure => simp [intOf]
      · have ht : bits .or .u64 ((R : Int) * 2) (bits .and .u64 ((lo : Int) / 2 ^ j) 1) < (d : Int) := by assumption
        rw [KB.out] at ht
        have hs := Wd.quo_round0 a d j Q R h2 KQ.out KR.out (by omega)
        go_round
        case rel => exact ⟨j, by omega, by go_num, by rw [hs.1]; go_num, by rw [hs.2, KB.out]⟩
        case measure => simp [intOf]
    · have hi : (k : Int) - 1 < 0 := by omega
      have hk0 : k = 0 := by omega
      subst hk0
      go_wp2
      go_ret2
      exact ⟨by simp, (Below.refl _ _).alloc (Nat.le_refl _) _⟩
end Go.Proofs.YtahagfdjpldblaaGreatDoor
