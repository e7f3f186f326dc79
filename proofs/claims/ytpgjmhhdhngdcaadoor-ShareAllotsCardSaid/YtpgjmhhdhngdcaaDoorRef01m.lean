/-
  What the reference's product comes to, as the machine runs them: on natural numbers' bits.
-/
import Derived.Test.YtpgjmhhdhngdcaaDoorProg
import Derived.Test.YtpgjmhhdhngdcaaDoorBits
import Derived.Test.YtpgjmhhdhngdcaaDoorArr
import Derived.Test.YtpgjmhhdhngdcaaDoorRef01
import Derived.Deep.QuietTactic
import Derived.BigQuiet
import Derived.Deep.RegionHeld3
namespace Go.Proofs.YtpgjmhhdhngdcaaDoor
open Go.RowKit
set_option linter.unusedVariables false
set_option linter.unusedSimpArgs false

/-- the sum of a, moved, for each of b's lowest bits -/
theorem mul_low (a b k : Nat) (h : b / 2 ^ k % 2 = 1) : a * (b % 2 ^ k) + a * 2 ^ k = a * (b % 2 ^ (k + 1)) := by
  rw [mod_succ, h, Nat.mul_one, Nat.mul_add]
theorem mul_low0 (a b k : Nat) (h : ¬ b / 2 ^ k % 2 = 1) : a * (b % 2 ^ k) = a * (b % 2 ^ (k + 1)) := by
  rw [mod_succ, show b / 2 ^ k % 2 = 0 by omega, Nat.mul_zero, Nat.add_zero]

set_option maxHeartbeats 2000000 in
theorem refMul_any (a b : Nat) (hb : b < 2 ^ 64) (w : World) :
    Calls Tryd.prog 66 #[.agg (bv a), .int .u64 (b : Int)] w fun e w' => e = .returned (.agg (bv (a * b))) ∧ Below w.heap.size w w' := by
  have eb : b % 2 ^ 64 = b := Nat.mod_eq_of_lt hb
  have EB := Lib.hid eb
  have hb' : (b : Int) ≤ 18446744073709551615 := by omega
  clear eb hb
  go_enter Tryd.func66, Tryd.ntmps66
  go_wp2_with (first | (refine ev_box (N := 2) rfl rfl 34 _ rfl _ rfl ?_; intro ga w1 hga RA B1) | (refine ev_alloc (N := 4) rfl rfl 34 rfl _ zero128 ?_; intro gr w3 hgr RR B2; replace hgr := Nat.le_trans B1.size hgr; replace RA := RA.below B2; replace B1 := below_then B1 B2; clear B2) | (refine ev_alloc (N := 5) rfl rfl 34 rfl _ zero128 ?_; intro go w4 hgo RO B2; have na := Nat.lt_of_lt_of_le RA.lt hgo; have nr := Nat.lt_of_lt_of_le RR.lt hgo; replace hgo := Nat.le_trans B1.size hgo; replace RA := RA.below B2; replace RR := RR.below B2; replace B1 := below_then B1 B2; clear B2))
  have RO' : Row w4 go (bv 0) 34 := RO.as (fun i hi => by unfold bit; simp)
  clear RO
  go_loopw [6] (fun i wr => ∃ k : Nat, k ≤ 64 ∧ i = .int .i64 k ∧ Row wr go (bv (a * (b % 2 ^ k))) 34 ∧ Row wr ga (bv a) 34 ∧ Row wr gr (vec 128 fun _ => 0) 34 ∧ Below w.heap.size w wr) (fun i _ => 64 - (intOf i).toNat)
  case atStart => exact ⟨0, by omega, rfl, by simpa [Nat.mod_one] using RO', RA, RR, B1⟩
  case round =>
    obtain ⟨k, hk, rfl, QO, QA, QR, BB⟩ := hrel
    clear RO' RA RR B1
    by_cases hlt : k < 64
    · have h0 : (0 : Int) ≤ (k : Int) := by omega
      have h1 : (k : Int) < 64 := by omega
      have p0 : (0 : Int) ≤ (b : Int) / 2 ^ k := Int.ediv_nonneg (by omega) (by exact_mod_cast Nat.zero_le _)
      have hbk : ((b : Int) / 2 ^ k % 2) = ((b / 2 ^ k % 2 : Nat) : Int) := by simp
      by_cases hbit : b / 2 ^ k % 2 = 1
      · have ht : ((b : Int) / 2 ^ k % 2 == 1) = true := by rw [hbk, hbit]; rfl
        have em := mul_low a b k hbit
        have EM := Lib.hid em
        clear em hbk hbit
        go_wp2_with (first | (refine ev_alloc (N := 7) rfl rfl 34 rfl _ zero128 ?_; intro gm w5 hgm RM B2; have ma := Nat.lt_of_lt_of_le QA.lt hgm; have mo := Nat.lt_of_lt_of_le QO.lt hgm; have mr := Nat.lt_of_lt_of_le QR.lt hgm; replace hgm := Nat.le_trans BB.size hgm; replace QA := QA.below B2; replace QO := QO.below B2; replace QR := QR.below B2; replace BB := below_then BB B2; clear B2))
        have RM' : Row w5 gm (vec 128 fun i => if i < k then bit (a * 2 ^ k) i else 0) 34 := RM.as (fun i hi => moved_start a k i)
        clear RM
        go_loopw [8] (fun i wq => ∃ j : Nat, k ≤ j ∧ j ≤ 128 ∧ i = .int .i64 j ∧ Row wq gm (vec 128 fun i => if i < j then bit (a * 2 ^ k) i else 0) 34 ∧ Row wq go (bv (a * (b % 2 ^ k))) 34 ∧ Row wq ga (bv a) 34 ∧ Row wq gr (vec 128 fun _ => 0) 34 ∧ Below w.heap.size w wq) (fun i _ => 128 - (intOf i).toNat)
        case atStart => exact ⟨k, by omega, by omega, rfl, RM', QO, QA, QR, BB⟩
        case round =>
          obtain ⟨j, hj1, hj2, rfl, PM, PO, PA, PR, PB⟩ := hrel
          clear RM' QO QA QR BB
          by_cases hjt : j < 128
          · have ca := (PA.cell (j - k)).trans (vec_get _ _ _ (by omega))
            have cm := ((PM.cell j).trans (vec_get _ _ _ hjt)).trans (by rw [if_neg (by omega)])
            have fm := PM.frozen j
            have g0 : (0 : Int) ≤ (j : Int) := by omega
            have g1 : (j : Int) < 128 := by omega
            have g2 : (k : Int) ≤ (j : Int) := by omega
            have mb : bit a (j - k) = bit (a * 2 ^ k) j := by unfold bit; rw [moved_bit a k j hj1]
            have MB := Lib.hid mb
            clear mb
            go_wp2
            go_roundw
            case rel => exact ⟨j + 1, by omega, by omega, by go_num, PM.fill (fun i hi => by rw [MB.out]; exact fill_step (bit (a * 2 ^ k)) (fun _ => 0) j i), PO.other _ (by simp; omega) _, PA.other _ (by simp; omega) _, PR.other _ (by simp; omega) _, below_set PB hgm _ _⟩
            case measure => simp [intOf]; omega
          · have hj0 : j = 128 := by omega
            subst hj0
            have PM' := PM.as (f' := bit (a * 2 ^ k)) (fun i hi => by rw [if_pos hi])
            clear PM
            go_wp2_with (first | (refine ev_load (N := 30) rfl rfl 34 _ rfl go rfl PO _ Tryd.underlying34 rfl (info128 _) ?_) | (refine ev_load (N := 31) rfl rfl 34 _ rfl gm rfl PM' _ Tryd.underlying34 rfl (info128 _) ?_) | (go_at_call 21; refine (refAdd_any (a * (b % 2 ^ k)) (a * 2 ^ k) _).mono ?_; rintro e w6 ⟨rfl, B6⟩; replace PO := PO.below B6; replace PA := PA.below B6; replace PR := PR.below B6; replace PB := below_then PB B6) | (refine ev_store rfl 34 _ _ rfl go _ rfl rfl PO (info128 _) (by rw [bv, vec_size]; exact (vec_size _ _).symm) (vec_one _ _) rfl ?_; intro w7 RZ S7))
            rw [EM.out] at RZ
            go_roundw
            case rel => exact ⟨k + 1, by omega, by go_num, RZ, PA.stored S7 (by omega), PR.stored S7 (by omega), S7.below PB hgo⟩
            case measure => simp [intOf]; omega
      · have ht : ((b : Int) / 2 ^ k % 2 == 1) = false := by rw [hbk]; simp; omega
        have em := mul_low0 a b k hbit
        rw [em] at QO
        clear em hbk hbit
        go_wp2
        go_roundw
        case rel => exact ⟨k + 1, by omega, by go_num, QO, QA, QR, BB⟩
        case measure => simp [intOf]; omega
    · have hk0 : k = 64 := by omega
      subst hk0
      rw [EB.out] at QO
      go_wp2_with (first | (refine ev_load (N := 33) rfl rfl 34 _ rfl go rfl QO _ Tryd.underlying34 rfl (info128 _) ?_) | (refine ev_store rfl 34 _ _ rfl gr _ rfl rfl QR (info128 _) (by rw [vec_size]; exact (vec_size _ _).symm) (vec_one _ _) rfl ?_; intro w7 RZ S7))
      exact bodyPost_ret (v := .agg (bv (a * b))) (res_row rfl _ _ RZ rfl Tryd.underlying34 rfl (info128 _)) rfl ⟨rfl, S7.below BB hgr⟩
end Go.Proofs.YtpgjmhhdhngdcaaDoor
