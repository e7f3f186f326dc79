/-
  What the reference's functions of layer 1 come to, as the machine runs them: on natural numbers' bits.
-/
import Derived.Test.YtimgilkchbcjmaaProg
import Derived.Test.YtimgilkchbcjmaaBits
import Derived.Test.YtimgilkchbcjmaaArr
import Derived.Deep.QuietTactic
import Derived.BigQuiet
import Derived.Deep.RegionHeld3
namespace Go.Proofs.Ytimgilkchbcjmaa
open Go.RowKit
set_option linter.unusedVariables false
set_option linter.unusedSimpArgs false

theorem zero128 (w : World) : (zeroValue 23).run Try.prog w = .ok (.agg (vec 128 fun _ => 0)) w := by kernel_rfl
theorem info128 (f : Nat → Int) : (Try.prog.info? 23).map (·.size) = some (vec 128 f).size := by rw [vec_size]; kernel_rfl

set_option maxHeartbeats 1000000 in
theorem refAdd_any (a b : Nat) (w : World) :
    Calls Try.prog 22 #[.agg (bv a), .agg (bv b)] w fun e w' => e = .returned (.agg (bv (a + b))) ∧ Below w.heap.size w w' := by
  go_enter Try.func22, Try.ntmps22
  go_wp2_with (first | (refine ev_box (N := 2) rfl rfl 23 _ rfl _ rfl ?_; intro ga w1 hga RA B1) | (refine ev_box (N := 3) rfl rfl 23 _ rfl _ rfl ?_; intro gb w2 hgb RB B2; replace RA := RA.below B2; replace B1 := below_then B1 B2; clear B2) | (refine ev_alloc (N := 4) rfl rfl 23 rfl _ zero128 ?_; intro gr w3 hgr RR B2; replace hgr := Nat.le_trans B1.size hgr; replace RA := RA.below B2; replace RB := RB.below B2; replace B1 := below_then B1 B2; clear B2) | (refine ev_alloc (N := 5) rfl rfl 23 rfl _ zero128 ?_; intro go w4 hgo RO B2; have na := Nat.lt_of_lt_of_le RA.lt hgo; have nb := Nat.lt_of_lt_of_le RB.lt hgo; have nr := Nat.lt_of_lt_of_le RR.lt hgo; replace hgo := Nat.le_trans B1.size hgo; replace RA := RA.below B2; replace RB := RB.below B2; replace RR := RR.below B2; replace B1 := below_then B1 B2; clear B2))
  go_loopw [6, 7] (fun c i wr => ∃ k : Nat, k ≤ 128 ∧ i = .int .i64 k ∧ c = .int .i64 (carry a b k : Int) ∧ Row wr go (vec 128 fun i => if i < k then bit (a + b) i else 0) 23 ∧ Row wr ga (bv a) 23 ∧ Row wr gb (bv b) 23 ∧ Row wr gr (vec 128 fun _ => 0) 23 ∧ Below w.heap.size w wr) (fun _ i _ => 128 - (intOf i).toNat)
  case atStart => exact ⟨0, by omega, rfl, by rw [carry_zero]; rfl, by simpa using RO, RA, RB, RR, B1⟩
  case round =>
    obtain ⟨k, hk, rfl, rfl, QO, QA, QB, QR, BB⟩ := hrel
    by_cases hlt : k < 128
    · have ca : wr.cell? ⟨ga, k, none⟩ = some (.int .i64 (bit a k)) := (QA.cell k).trans (vec_get _ _ _ hlt)
      have cb : wr.cell? ⟨gb, k, none⟩ = some (.int .i64 (bit b k)) := (QB.cell k).trans (vec_get _ _ _ hlt)
      have co : wr.cell? ⟨go, k, none⟩ = some (.int .i64 0) := ((QO.cell k).trans (vec_get _ _ _ hlt)).trans (by simp)
      have fo := QO.frozen k
      have hcb := carry_bd a b k
      have hab := bit_bd a k
      have hbb := bit_bd b k
      have h0 : (0 : Int) ≤ (k : Int) := by omega
      have h1 : (k : Int) < 128 := by omega
      have e1 : IntKind.i64.wrap (bit a k + bit b k) = bit a k + bit b k := by rw [IntKind.wrap_i64]; omega
      have e2 : IntKind.i64.wrap (bit a k + bit b k + (carry a b k : Int)) = bit a k + bit b k + (carry a b k : Int) := by rw [IntKind.wrap_i64]; omega
      go_wp2
      go_quiet (fail)
      go_wp2
      have hsum : (bit a k + bit b k + (carry a b k : Int)) % 2 = bit (a + b) k := by unfold bit; rw [sum_bit]; omega
      have hcar : (bit a k + bit b k + (carry a b k : Int)) / 2 = (carry a b (k + 1) : Int) := by unfold bit; rw [carry_succ]; omega
      go_roundw
      case rel =>
        exact ⟨k + 1, by omega, by go_num, by rw [hcar], (QO.drewN nq).fill (fun i hi => by rw [hsum]; exact fill_step (bit (a + b)) (fun _ => 0) k i), (QA.drewN nq).other _ (by simp; omega) _, (QB.drewN nq).other _ (by simp; omega) _, (QR.drewN nq).other _ (by simp; omega) _, below_set (below_dN BB nq) hgo _ _⟩
      case measure => simp [intOf]; omega
    · have hk0 : k = 128 := by omega
      subst hk0
      have QO' : Row wr go (bv (a + b)) 23 := QO.as (fun i hi => by rw [if_pos hi])
      clear QO
      go_wp2_with (first | (refine ev_load (N := 28) rfl rfl 23 _ rfl go rfl QO' _ Try.underlying23 rfl (info128 _) ?_) | (refine ev_store rfl 23 _ _ rfl gr _ rfl rfl QR (info128 _) (by rw [vec_size]; exact (vec_size _ _).symm) (vec_one _ _) rfl ?_; intro w5 RZ S5))
      exact bodyPost_ret (v := .agg (bv (a + b))) (res_row rfl _ _ RZ rfl Try.underlying23 rfl (info128 _)) rfl ⟨rfl, S5.below BB hgr⟩
set_option maxHeartbeats 1000000 in
theorem refNeg_any (a : Nat) (ha : a < 2 ^ 128) (w : World) :
    Calls Try.prog 13 #[.agg (bv a)] w fun e w' => e = .returned (.agg (bv (2 ^ 128 - a))) ∧ Below w.heap.size w w' := by
  obtain ⟨c, hc⟩ : ∃ c, c = 2 ^ 128 - 1 - a := ⟨_, rfl⟩
  have hcb : Hid (∀ i, i < 128 → 1 - bit a i = bit c i) := Lib.hid fun i hi => by rw [hc]; exact neg_bit a i ha hi
  have ez : 2 ^ 128 - a = c + 1 := by omega
  rw [ez]
  clear ez hc ha
  go_enter Try.func13, Try.ntmps13
  go_wp2_with (first | (refine ev_box (N := 1) rfl rfl 23 _ rfl _ rfl ?_; intro ga w1 hga RA B1) | (refine ev_alloc (N := 2) rfl rfl 23 rfl _ zero128 ?_; intro gr w3 hgr RR B2; have n1 := Nat.lt_of_lt_of_le RA.lt hgr; replace hgr := Nat.le_trans B1.size hgr; replace RA := RA.below B2; replace B1 := below_then B1 B2; clear B2) | (refine ev_alloc (N := 3) rfl rfl 23 rfl _ zero128 ?_; intro go w4 hgo RO B2; have na := Nat.lt_of_lt_of_le RA.lt hgo; have nr := Nat.lt_of_lt_of_le RR.lt hgo; replace hgo := Nat.le_trans B1.size hgo; replace RA := RA.below B2; replace RR := RR.below B2; replace B1 := below_then B1 B2; clear B2; have co : w4.cell? ⟨go, 0, none⟩ = some (.int .i64 0) := (RO.cell 0).trans (vec_get _ _ _ (by omega)); have fo := RO.frozen 0))
  have RO1 := RO.fill (k := 0) (x := 1) (f' := bit 1) (fun i hi => by rw [bit_one])
  have RA1 := RA.other ⟨go, 0, none⟩ (by simp; omega) (.int .i64 1)
  have RR1 := RR.other ⟨go, 0, none⟩ (by simp; omega) (.int .i64 1)
  have B2 := below_set B1 hgo 0 (.int .i64 1)
  clear co fo RO RA RR B1
  generalize w4.setCell ⟨go, 0, none⟩ (.int .i64 1) = w5 at *
  go_loopw [4] (fun i wr => ∃ k : Nat, k ≤ 128 ∧ i = .int .i64 k ∧ Row wr ga (vec 128 fun i => if i < k then bit c i else bit a i) 23 ∧ Row wr go (bv 1) 23 ∧ Row wr gr (vec 128 fun _ => 0) 23 ∧ Below w.heap.size w wr) (fun i _ => 128 - (intOf i).toNat)
  case atStart => exact ⟨0, by omega, rfl, RA1.as (fun i hi => by simp), RO1, RR1, B2⟩
  case round =>
    obtain ⟨k, hk, rfl, QA, QO, QR, BB⟩ := hrel
    clear RO1 RA1 RR1 B2
    by_cases hlt : k < 128
    · have ca : wr.cell? ⟨ga, k, none⟩ = some (.int .i64 (bit a k)) := ((QA.cell k).trans (vec_get _ _ _ hlt)).trans (by simp)
      have fa := QA.frozen k
      have hab := bit_bd a k
      have h0 : (0 : Int) ≤ (k : Int) := by omega
      have h1 : (k : Int) < 128 := by omega
      have HN := Lib.hid (hcb.out k hlt)
      go_wp2
      go_roundw
      case rel => exact ⟨k + 1, by omega, by go_num, QA.fill (fun i hi => by rw [HN.out]; exact fill_step (bit c) (bit a) k i), QO.other _ (by simp; omega) _, QR.other _ (by simp; omega) _, below_set BB hga _ _⟩
      case measure => simp [intOf]; omega
    · have hk0 : k = 128 := by omega
      subst hk0
      have QA' : Row wr ga (bv c) 23 := QA.as (fun i hi => by rw [if_pos hi])
      clear QA
      go_wp2_with (first | (refine ev_load (N := 16) rfl rfl 23 _ rfl ga rfl QA' _ Try.underlying23 rfl (info128 _) ?_) | (refine ev_load (N := 17) rfl rfl 23 _ rfl go rfl QO _ Try.underlying23 rfl (info128 _) ?_) | (go_at_call 22; refine (refAdd_any c 1 _).mono ?_; rintro e w6 ⟨rfl, B6⟩; have QR6 := QR.below B6; have BB6 := below_then BB B6) | (refine ev_store rfl 23 _ _ rfl gr _ rfl rfl QR6 (info128 _) (by rw [vec_size]; exact (vec_size _ _).symm) (vec_one _ _) rfl ?_; intro w7 RZ S7))
      exact bodyPost_ret (v := .agg (bv (c + 1))) (res_row rfl _ _ RZ rfl Try.underlying23 rfl (info128 _)) rfl ⟨rfl, S7.below BB6 hgr⟩

set_option maxHeartbeats 1000000 in
theorem refBits_any (h l : Int) (hh : Wd.I64 h) (hl : Wd.U64 l) (w : World) :
    Calls Try.prog 19 #[.int .i64 h, .int .u64 l] w fun e w' => e = .returned (.agg (bv (u128 (Wd.num h l)))) ∧ Below w.heap.size w w' := by
  go_enter Try.func19, Try.ntmps19
  go_wp2_with (first | (refine ev_alloc (N := 4) rfl rfl 23 rfl _ zero128 ?_; intro gr w1 hgr RR B1) | (refine ev_alloc (N := 5) rfl rfl 23 rfl _ zero128 ?_; intro go w4 hgo RO B2; have nr := Nat.lt_of_lt_of_le RR.lt hgo; replace hgo := Nat.le_trans B1.size hgo; replace RR := RR.below B2; replace B1 := below_then B1 B2; clear B2))
  go_loopw [6] (fun i wr => ∃ k : Nat, k ≤ 64 ∧ i = .int .i64 k ∧ Row wr go (vec 128 fun i => if i < k ∨ (64 ≤ i ∧ i < 64 + k) then bit (u128 (Wd.num h l)) i else 0) 23 ∧ Row wr gr (vec 128 fun _ => 0) 23 ∧ Below w.heap.size w wr) (fun i _ => 64 - (intOf i).toNat)
  case atStart => exact ⟨0, by omega, rfl, RO.as (fun i hi => by rw [if_neg (by omega)]), RR, B1⟩
  case round =>
    obtain ⟨k, hk, rfl, QO, QR, BB⟩ := hrel
    clear RO RR B1
    by_cases hlt : k < 64
    · have c0 : wr.cell? ⟨go, k, none⟩ = some (.int .i64 0) := ((QO.cell k).trans (vec_get _ _ _ (by omega))).trans (by rw [if_neg (by omega)])
      have c1 : wr.cell? ⟨go, 64 + k, none⟩ = some (.int .i64 0) := ((QO.cell (64 + k)).trans (vec_get _ _ _ (by omega))).trans (by rw [if_neg (by omega)])
      have f0 := QO.frozen k
      have f1 := QO.frozen (64 + k)
      have h0 : (0 : Int) ≤ (k : Int) := by omega
      have h1 : (k : Int) < 64 := by omega
      have b0 := num_bit_lo h l hl k hlt
      have b1 := num_bit_hi h l hh hl k hlt
      have p0 : 0 ≤ l / 2 ^ k := Int.ediv_nonneg hl.1 (by exact_mod_cast Nat.zero_le _)
      have p1 : 0 ≤ IntKind.u64.wrap h / 2 ^ k := Int.ediv_nonneg (by rw [IntKind.wrap_u64]; omega) (by exact_mod_cast Nat.zero_le _)
      have H0 := Lib.hid b0
      have H1 := Lib.hid b1
      clear b0 b1
      go_wp2
      go_roundw
      case rel =>
        refine ⟨k + 1, by omega, by go_num, ?_, (QR.other _ (by simp; omega) _).other _ (by simp; omega) _, below_set (below_set BB hgo _ _) hgo _ _⟩
        refine Row.fill (f := fun i => if i = k then bit (u128 (Wd.num h l)) k else if i < k ∨ (64 ≤ i ∧ i < 64 + k) then bit (u128 (Wd.num h l)) i else 0) ?_ ?_
        · exact QO.fill (fun i hi => by rw [H0.out])
        · intro i hi
          rw [← H1.out]
          by_cases e1 : i = 64 + k
          · subst e1; rw [if_pos rfl, if_pos (by omega)]
          · rw [if_neg e1]
            by_cases e2 : i = k
            · subst e2; rw [if_pos rfl, if_pos (by omega)]
            · rw [if_neg e2]
              by_cases e3 : i < k ∨ (64 ≤ i ∧ i < 64 + k)
              · rw [if_pos e3, if_pos (by omega)]
              · rw [if_neg e3, if_neg (by omega)]
      case measure => simp [intOf]; omega
    · have hk0 : k = 64 := by omega
      subst hk0
      have QO' : Row wr go (bv (u128 (Wd.num h l))) 23 := QO.as (fun i hi => by rw [if_pos (by omega)])
      clear QO
      go_wp2_with (first | (refine ev_load (N := 27) rfl rfl 23 _ rfl go rfl QO' _ Try.underlying23 rfl (info128 _) ?_) | (refine ev_store rfl 23 _ _ rfl gr _ rfl rfl QR (info128 _) (by rw [vec_size]; exact (vec_size _ _).symm) (vec_one _ _) rfl ?_; intro w7 RZ S7))
      exact bodyPost_ret (v := .agg (bv (u128 (Wd.num h l)))) (res_row rfl _ _ RZ rfl Try.underlying23 rfl (info128 _)) rfl ⟨rfl, S7.below BB hgr⟩

set_option maxHeartbeats 1000000 in
theorem refNumber_any (m : Nat) (hm : m < 2 ^ 128) (w : World) :
    Calls Try.prog 27 #[.agg (bv m)] w fun e w' => e = .returned (.tuple #[.int .i64 (Wd.hi (m : Int)), .int .u64 (Wd.lo (m : Int))]) ∧ Below w.heap.size w w' := by
  have hlo : ((m % 2 ^ 64 : Nat) : Int) = Wd.lo (m : Int) := by unfold Wd.lo; omega
  have hhi : wrap64 ((m / 2 ^ 64 % 2 ^ 64 : Nat) : Int) = Wd.hi (m : Int) := by unfold Wd.hi wrap64; omega
  have HLO := Lib.hid hlo
  have HHI := Lib.hid hhi
  clear hlo hhi hm
  go_enter Try.func27, Try.ntmps27
  go_wp2_with (first | (refine ev_box (N := 1) rfl rfl 23 _ rfl _ rfl ?_; intro ga w1 hga RA B1))
  go_loop [4, 5, 6] (fun h l i => ∃ k : Nat, k ≤ 64 ∧ i = .int .i64 k ∧ l = .int .u64 ((m % 2 ^ k : Nat) : Int) ∧ h = .int .u64 ((m / 2 ^ 64 % 2 ^ k : Nat) : Int)) (fun _ _ i => 64 - (intOf i).toNat)
  case atStart => exact ⟨0, by omega, rfl, by simp [Nat.mod_one], by simp [Nat.mod_one]⟩
  case round =>
    obtain ⟨k, hk, rfl, rfl, rfl⟩ := hrel
    by_cases hlt : k < 64
    · have c0 : w1.cell? ⟨ga, k, none⟩ = some (.int .i64 (bit m k)) := (RA.cell k).trans (vec_get _ _ _ (by omega))
      have c1 : w1.cell? ⟨ga, 64 + k, none⟩ = some (.int .i64 (bit m (64 + k))) := (RA.cell (64 + k)).trans (vec_get _ _ _ (by omega))
      have h0 : (0 : Int) ≤ (k : Int) := by omega
      have h1 : (k : Int) < 64 := by omega
      have s0 := sum_low m k hlt
      have s1 := sum_low (m / 2 ^ 64) k hlt
      rw [← bit_high] at s1
      have hb0 := bit_bd m k
      have hb1 := bit_bd m (64 + k)
      have g1 := Nat.mod_lt m (Nat.two_pow_pos k)
      have g2 := Nat.mod_lt (m / 2 ^ 64) (Nat.two_pow_pos k)
      generalize m % 2 ^ k = A at *
      generalize m / 2 ^ 64 % 2 ^ k = B at *
      have H0 := Lib.hid s0
      have H1 := Lib.hid s1
      clear s0 s1 g1 g2
      go_wp2
      go_round
      case rel => exact ⟨k + 1, by omega, by go_num, by rw [← H0.out], by rw [← H1.out]⟩
      case measure => simp [intOf]; omega
    · have hk0 : k = 64 := by omega
      subst hk0
      rw [HLO.out]
      generalize hH : ((m / 2 ^ 64 % 2 ^ 64 : Nat) : Int) = H at *
      have KH := Lib.hid hH
      clear hH
      go_wp2
      go_ret2
      refine ⟨?_, B1⟩
      rw [← HHI.out]
      exact congrArg (fun x => Ending.returned (.tuple #[.int .i64 x, .int .u64 (Wd.lo (m : Int))])) rfl

set_option maxHeartbeats 1000000 in
theorem lawBits_any (h l : Int) (hh : Wd.I64 h) (hl : Wd.U64 l) (w : World) :
    Calls Try.prog 12 #[.agg #[.int .i64 h, .int .u64 l]] w fun e w' => e = .returned (.agg (bv (u128 (Wd.num h l)))) ∧ Below w.heap.size w w' := by
  go_enter Try.func12, Try.ntmps12
  go_wp2_with (first | (refine ev_box (N := 1) rfl rfl 28 _ rfl _ rfl ?_; intro ga w1 hga RA B1; have c0 : w1.cell? ⟨ga, 0, none⟩ = some (.int .i64 h) := RA.cell 0; have c1 : w1.cell? ⟨ga, 1, none⟩ = some (.int .u64 l) := RA.cell 1) | (refine ev_alloc (N := 2) rfl rfl 23 rfl _ zero128 ?_; intro gr w2 hgr RR B2; replace hgr := Nat.le_trans B1.size hgr; replace RA := RA.below B2; replace B1 := below_then B1 B2; clear B2; have c0 : w2.cell? ⟨ga, 0, none⟩ = some (.int .i64 h) := RA.cell 0; have c1 : w2.cell? ⟨ga, 1, none⟩ = some (.int .u64 l) := RA.cell 1) | (go_at_call 19; refine (refBits_any h l hh hl _).mono ?_; rintro e w6 ⟨rfl, B6⟩; have QR6 := RR.below B6; have BB6 := below_then B1 B6) | (refine ev_store rfl 23 _ _ rfl gr _ rfl rfl QR6 (info128 _) (by rw [vec_size]; exact (vec_size _ _).symm) (vec_one _ _) rfl ?_; intro w7 RZ S7))
  exact bodyPost_ret (v := .agg (bv (u128 (Wd.num h l)))) (res_row rfl _ _ RZ rfl Try.underlying23 rfl (info128 _)) rfl ⟨rfl, S7.below BB6 hgr⟩

set_option maxHeartbeats 1000000 in
theorem lawIs_any (m : Nat) (hm : m < 2 ^ 128) (w : World) :
    Calls Try.prog 14 #[.agg #[.int .i64 (Wd.hi (m : Int)), .int .u64 (Wd.lo (m : Int))], .agg (bv m)] w fun e w' => e = .returned (.bool true) ∧ Below w.heap.size w w' := by
  go_enter Try.func14, Try.ntmps14
  go_wp2_with (first | (refine ev_box (N := 2) rfl rfl 28 _ rfl _ rfl ?_; intro ga w1 hga RA B1) | (refine ev_box (N := 3) rfl rfl 23 _ rfl _ rfl ?_; intro gr w2 hgr RR B2; replace RA := RA.below B2; replace B1 := below_then B1 B2; clear B2) | (refine ev_load (N := 8) rfl rfl 23 _ rfl gr rfl RR _ Try.underlying23 rfl (info128 _) ?_) | (go_at_call 27; refine (refNumber_any m hm _).mono ?_; rintro e w6 ⟨rfl, B6⟩; replace RA := RA.below B6; replace B1 := below_then B1 B6; clear B6; have c0 : w6.cell? ⟨ga, 0, none⟩ = some (.int .i64 (Wd.hi (m : Int))) := RA.cell 0; have c1 : w6.cell? ⟨ga, 1, none⟩ = some (.int .u64 (Wd.lo (m : Int))) := RA.cell 1))
  go_ret
  exact ⟨rfl, B1⟩

/-- the sum of a, moved, for each of b's lowest bits -/
theorem mul_low (a b k : Nat) (h : b / 2 ^ k % 2 = 1) : a * (b % 2 ^ k) + a * 2 ^ k = a * (b % 2 ^ (k + 1)) := by
  rw [mod_succ, h, Nat.mul_one, Nat.mul_add]
theorem mul_low0 (a b k : Nat) (h : ¬ b / 2 ^ k % 2 = 1) : a * (b % 2 ^ k) = a * (b % 2 ^ (k + 1)) := by
  rw [mod_succ, show b / 2 ^ k % 2 = 0 by omega, Nat.mul_zero, Nat.add_zero]

set_option maxHeartbeats 2000000 in
theorem refMul_any (a b : Nat) (hb : b < 2 ^ 64) (w : World) :
    Calls Try.prog 16 #[.agg (bv a), .int .u64 (b : Int)] w fun e w' => e = .returned (.agg (bv (a * b))) ∧ Below w.heap.size w w' := by
  have eb : b % 2 ^ 64 = b := Nat.mod_eq_of_lt hb
  have EB := Lib.hid eb
  have hb' : (b : Int) ≤ 18446744073709551615 := by omega
  clear eb hb
  go_enter Try.func16, Try.ntmps16
  go_wp2_with (first | (refine ev_box (N := 2) rfl rfl 23 _ rfl _ rfl ?_; intro ga w1 hga RA B1) | (refine ev_alloc (N := 4) rfl rfl 23 rfl _ zero128 ?_; intro gr w3 hgr RR B2; replace hgr := Nat.le_trans B1.size hgr; replace RA := RA.below B2; replace B1 := below_then B1 B2; clear B2) | (refine ev_alloc (N := 5) rfl rfl 23 rfl _ zero128 ?_; intro go w4 hgo RO B2; have na := Nat.lt_of_lt_of_le RA.lt hgo; have nr := Nat.lt_of_lt_of_le RR.lt hgo; replace hgo := Nat.le_trans B1.size hgo; replace RA := RA.below B2; replace RR := RR.below B2; replace B1 := below_then B1 B2; clear B2))
  have RO' : Row w4 go (bv 0) 23 := RO.as (fun i hi => by unfold bit; simp)
  clear RO
  go_loopw [6] (fun i wr => ∃ k : Nat, k ≤ 64 ∧ i = .int .i64 k ∧ Row wr go (bv (a * (b % 2 ^ k))) 23 ∧ Row wr ga (bv a) 23 ∧ Row wr gr (vec 128 fun _ => 0) 23 ∧ Below w.heap.size w wr) (fun i _ => 64 - (intOf i).toNat)
  case atStart => exact ⟨0, by omega, rfl, by simpa [Nat.mod_one] using RO', RA, RR, B1⟩
  case round =>
    obtain ⟨k, hk, rfl, QO, QA, QR, BB⟩ := hrel
    clear RO' RA RR B1
    by_cases hlt : k < 64
    · have h0 : (0 : Int) ≤ (k : Int) := by omega
      have h1 : (k : Int) < 64 := by omega
      have p0 : (0 : Int) ≤ (b : Int) / 2 ^ k := Int.ediv_nonneg (by omega) (by exact_mod_cast Nat.zero_le _)
      have hbk : ((b : Int) / 2 ^ k % 2) = ((b / 2 ^ k % 2 : Nat) : Int) := by simp
      by_cases hbit : b / 2 ^ k % 2 = 1
      · have ht : ((b : Int) / 2 ^ k % 2 == 1) = true := by rw [hbk, hbit]; rfl
        have em := mul_low a b k hbit
        have EM := Lib.hid em
        clear em hbk hbit
        go_wp2_with (first | (refine ev_alloc (N := 7) rfl rfl 23 rfl _ zero128 ?_; intro gm w5 hgm RM B2; have ma := Nat.lt_of_lt_of_le QA.lt hgm; have mo := Nat.lt_of_lt_of_le QO.lt hgm; have mr := Nat.lt_of_lt_of_le QR.lt hgm; replace hgm := Nat.le_trans BB.size hgm; replace QA := QA.below B2; replace QO := QO.below B2; replace QR := QR.below B2; replace BB := below_then BB B2; clear B2))
        have RM' : Row w5 gm (vec 128 fun i => if i < k then bit (a * 2 ^ k) i else 0) 23 := RM.as (fun i hi => moved_start a k i)
        clear RM
        go_loopw [8] (fun i wq => ∃ j : Nat, k ≤ j ∧ j ≤ 128 ∧ i = .int .i64 j ∧ Row wq gm (vec 128 fun i => if i < j then bit (a * 2 ^ k) i else 0) 23 ∧ Row wq go (bv (a * (b % 2 ^ k))) 23 ∧ Row wq ga (bv a) 23 ∧ Row wq gr (vec 128 fun _ => 0) 23 ∧ Below w.heap.size w wq) (fun i _ => 128 - (intOf i).toNat)
        case atStart => exact ⟨k, by omega, by omega, rfl, RM', QO, QA, QR, BB⟩
        case round =>
          obtain ⟨j, hj1, hj2, rfl, PM, PO, PA, PR, PB⟩ := hrel
          clear RM' QO QA QR BB
          by_cases hjt : j < 128
          · have ca := (PA.cell (j - k)).trans (vec_get _ _ _ (by omega))
            have cm := ((PM.cell j).trans (vec_get _ _ _ hjt)).trans (by rw [if_neg (by omega)])
            have fm := PM.frozen j
            have g0 : (0 : Int) ≤ (j : Int) := by omega
            have g1 : (j : Int) < 128 := by omega
            have g2 : (k : Int) ≤ (j : Int) := by omega
            have mb : bit a (j - k) = bit (a * 2 ^ k) j := by unfold bit; rw [moved_bit a k j hj1]
            have MB := Lib.hid mb
            clear mb
            go_wp2
            go_roundw
            case rel => exact ⟨j + 1, by omega, by omega, by go_num, PM.fill (fun i hi => by rw [MB.out]; exact fill_step (bit (a * 2 ^ k)) (fun _ => 0) j i), PO.other _ (by simp; omega) _, PA.other _ (by simp; omega) _, PR.other _ (by simp; omega) _, below_set PB hgm _ _⟩
            case measure => simp [intOf]; omega
          · have hj0 : j = 128 := by omega
            subst hj0
            have PM' := PM.as (f' := bit (a * 2 ^ k)) (fun i hi => by rw [if_pos hi])
            clear PM
            go_wp2_with (first | (refine ev_load (N := 30) rfl rfl 23 _ rfl go rfl PO _ Try.underlying23 rfl (info128 _) ?_) | (refine ev_load (N := 31) rfl rfl 23 _ rfl gm rfl PM' _ Try.underlying23 rfl (info128 _) ?_) | (go_at_call 22; refine (refAdd_any (a * (b % 2 ^ k)) (a * 2 ^ k) _).mono ?_; rintro e w6 ⟨rfl, B6⟩; replace PO := PO.below B6; replace PA := PA.below B6; replace PR := PR.below B6; replace PB := below_then PB B6) | (refine ev_store rfl 23 _ _ rfl go _ rfl rfl PO (info128 _) (by rw [bv, vec_size]; exact (vec_size _ _).symm) (vec_one _ _) rfl ?_; intro w7 RZ S7))
            rw [EM.out] at RZ
            go_roundw
            case rel => exact ⟨k + 1, by omega, by go_num, RZ, PA.stored S7 (by omega), PR.stored S7 (by omega), S7.below PB hgo⟩
            case measure => simp [intOf]; omega
      · have ht : ((b : Int) / 2 ^ k % 2 == 1) = false := by rw [hbk]; simp; omega
        have em := mul_low0 a b k hbit
        rw [em] at QO
        clear em hbk hbit
        go_wp2
        go_roundw
        case rel => exact ⟨k + 1, by omega, by go_num, QO, QA, QR, BB⟩
        case measure => simp [intOf]; omega
    · have hk0 : k = 64 := by omega
      subst hk0
      rw [EB.out] at QO
      go_wp2_with (first | (refine ev_load (N := 33) rfl rfl 23 _ rfl go rfl QO _ Try.underlying23 rfl (info128 _) ?_) | (refine ev_store rfl 23 _ _ rfl gr _ rfl rfl QR (info128 _) (by rw [vec_size]; exact (vec_size _ _).symm) (vec_one _ _) rfl ?_; intro w7 RZ S7))
      exact bodyPost_ret (v := .agg (bv (a * b))) (res_row rfl _ _ RZ rfl Try.underlying23 rfl (info128 _)) rfl ⟨rfl, S7.below BB hgr⟩
end Go.Proofs.Ytimgilkchbcjmaa
