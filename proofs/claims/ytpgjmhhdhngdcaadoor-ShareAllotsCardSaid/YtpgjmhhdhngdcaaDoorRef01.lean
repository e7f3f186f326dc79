/-
  What the reference's functions of layer 1 come to, as the machine runs them: on natural numbers' bits.
-/
import Derived.Test.YtpgjmhhdhngdcaaDoorProg
import Derived.Test.YtpgjmhhdhngdcaaDoorBits
import Derived.Test.YtpgjmhhdhngdcaaDoorArr
import Derived.Deep.QuietTactic
import Derived.BigQuiet
import Derived.Deep.RegionHeld3
namespace Go.Proofs.YtpgjmhhdhngdcaaDoor
open Go.RowKit
set_option linter.unusedVariables false
set_option linter.unusedSimpArgs false

theorem zero128 (w : World) : (zeroValue 34).run Tryd.prog w = .ok (.agg (vec 128 fun _ => 0)) w := by kernel_rfl
theorem info128 (f : Nat → Int) : (Tryd.prog.info? 34).map (·.size) = some (vec 128 f).size := by rw [vec_size]; kernel_rfl

set_option maxHeartbeats 1000000 in
theorem refAdd_any (a b : Nat) (w : World) :
    Calls Tryd.prog 21 #[.agg (bv a), .agg (bv b)] w fun e w' => e = .returned (.agg (bv (a + b))) ∧ Below w.heap.size w w' := by
  go_enter Tryd.func21, Tryd.ntmps21
  go_wp2_with (first | (refine ev_box (N := 2) rfl rfl 34 _ rfl _ rfl ?_; intro ga w1 hga RA B1) | (refine ev_box (N := 3) rfl rfl 34 _ rfl _ rfl ?_; intro gb w2 hgb RB B2; replace RA := RA.below B2; replace B1 := below_then B1 B2; clear B2) | (refine ev_alloc (N := 4) rfl rfl 34 rfl _ zero128 ?_; intro gr w3 hgr RR B2; replace hgr := Nat.le_trans B1.size hgr; replace RA := RA.below B2; replace RB := RB.below B2; replace B1 := below_then B1 B2; clear B2) | (refine ev_alloc (N := 5) rfl rfl 34 rfl _ zero128 ?_; intro go w4 hgo RO B2; have na := Nat.lt_of_lt_of_le RA.lt hgo; have nb := Nat.lt_of_lt_of_le RB.lt hgo; have nr := Nat.lt_of_lt_of_le RR.lt hgo; replace hgo := Nat.le_trans B1.size hgo; replace RA := RA.below B2; replace RB := RB.below B2; replace RR := RR.below B2; replace B1 := below_then B1 B2; clear B2))
  go_loopw [6, 7] (fun c i wr => ∃ k : Nat, k ≤ 128 ∧ i = .int .i64 k ∧ c = .int .i64 (carry a b k : Int) ∧ Row wr go (vec 128 fun i => if i < k then bit (a + b) i else 0) 34 ∧ Row wr ga (bv a) 34 ∧ Row wr gb (bv b) 34 ∧ Row wr gr (vec 128 fun _ => 0) 34 ∧ Below w.heap.size w wr) (fun _ i _ => 128 - (intOf i).toNat)
  case atStart => exact ⟨0, by omega, rfl, by rw [carry_zero]; rfl, by simpa using RO, RA, RB, RR, B1⟩
  case round =>
    obtain ⟨k, hk, rfl, rfl, QO, QA, QB, QR, BB⟩ := hrel
    by_cases hlt : k < 128
    · have ca : wr.cell? ⟨ga, k, none⟩ = some (.int .i64 (bit a k)) := (QA.cell k).trans (vec_get _ _ _ hlt)
      have cb : wr.cell? ⟨gb, k, none⟩ = some (.int .i64 (bit b k)) := (QB.cell k).trans (vec_get _ _ _ hlt)
      have co : wr.cell? ⟨go, k, none⟩ = some (.int .i64 0) := ((QO.cell k).trans (vec_get _ _ _ hlt)).trans (by simp)
      have fo := QO.frozen k
      have hcb := carry_bd a b k
      have hab := bit_bd a k
      have hbb := bit_bd b k
      have h0 : (0 : Int) ≤ (k : Int) := by omega
      have h1 : (k : Int) < 128 := by omega
      have e1 : IntKind.i64.wrap (bit a k + bit b k) = bit a k + bit b k := by rw [IntKind.wrap_i64]; omega
      have e2 : IntKind.i64.wrap (bit a k + bit b k + (carry a b k : Int)) = bit a k + bit b k + (carry a b k : Int) := by rw [IntKind.wrap_i64]; omega
      go_wp2
      go_quiet (fail)
      go_wp2
      have hsum : (bit a k + bit b k + (carry a b k : Int)) % 2 = bit (a + b) k := by unfold bit; rw [sum_bit]; omega
      have hcar : (bit a k + bit b k + (carry a b k : Int)) / 2 = (carry a b (k + 1) : Int) := by unfold bit; rw [carry_succ]; omega
      go_roundw
      case rel =>
        exact ⟨k + 1, by omega, by go_num, by rw [hcar], (QO.drewN nq).fill (fun i hi => by rw [hsum]; exact fill_step (bit (a + b)) (fun _ => 0) k i), (QA.drewN nq).other _ (by simp; omega) _, (QB.drewN nq).other _ (by simp; omega) _, (QR.drewN nq).other _ (by simp; omega) _, below_set (below_dN BB nq) hgo _ _⟩
      case measure => simp [intOf]; omega
    · have hk0 : k = 128 := by omega
      subst hk0
      have QO' : Row wr go (bv (a + b)) 34 := QO.as (fun i hi => by rw [if_pos hi])
      clear QO
      go_wp2_with (first | (refine ev_load (N := 28) rfl rfl 34 _ rfl go rfl QO' _ Tryd.underlying34 rfl (info128 _) ?_) | (refine ev_store rfl 34 _ _ rfl gr _ rfl rfl QR (info128 _) (by rw [vec_size]; exact (vec_size _ _).symm) (vec_one _ _) rfl ?_; intro w5 RZ S5))
      exact bodyPost_ret (v := .agg (bv (a + b))) (res_row rfl _ _ RZ rfl Tryd.underlying34 rfl (info128 _)) rfl ⟨rfl, S5.below BB hgr⟩
set_option maxHeartbeats 1000000 in
theorem refBits_any (h l : Int) (hh : Wd.I64 h) (hl : Wd.U64 l) (w : World) :
    Calls Tryd.prog 20 #[.int .i64 h, .int .u64 l] w fun e w' => e = .returned (.agg (bv (u128 (Wd.num h l)))) ∧ Below w.heap.size w w' := by
  go_enter Tryd.func20, Tryd.ntmps20
  go_wp2_with (first | (refine ev_alloc (N := 4) rfl rfl 34 rfl _ zero128 ?_; intro gr w1 hgr RR B1) | (refine ev_alloc (N := 5) rfl rfl 34 rfl _ zero128 ?_; intro go w4 hgo RO B2; have nr := Nat.lt_of_lt_of_le RR.lt hgo; replace hgo := Nat.le_trans B1.size hgo; replace RR := RR.below B2; replace B1 := below_then B1 B2; clear B2))
  go_loopw [6] (fun i wr => ∃ k : Nat, k ≤ 64 ∧ i = .int .i64 k ∧ Row wr go (vec 128 fun i => if i < k ∨ (64 ≤ i ∧ i < 64 + k) then bit (u128 (Wd.num h l)) i else 0) 34 ∧ Row wr gr (vec 128 fun _ => 0) 34 ∧ Below w.heap.size w wr) (fun i _ => 64 - (intOf i).toNat)
  case atStart => exact ⟨0, by omega, rfl, RO.as (fun i hi => by rw [if_neg (by omega)]), RR, B1⟩
  case round =>
    obtain ⟨k, hk, rfl, QO, QR, BB⟩ := hrel
    clear RO RR B1
    by_cases hlt : k < 64
    · have c0 : wr.cell? ⟨go, k, none⟩ = some (.int .i64 0) := ((QO.cell k).trans (vec_get _ _ _ (by omega))).trans (by rw [if_neg (by omega)])
      have c1 : wr.cell? ⟨go, 64 + k, none⟩ = some (.int .i64 0) := ((QO.cell (64 + k)).trans (vec_get _ _ _ (by omega))).trans (by rw [if_neg (by omega)])
      have f0 := QO.frozen k
      have f1 := QO.frozen (64 + k)
      have h0 : (0 : Int) ≤ (k : Int) := by omega
      have h1 : (k : Int) < 64 := by omega
      have b0 := num_bit_lo h l hl k hlt
      have b1 := num_bit_hi h l hh hl k hlt
      have p0 : 0 ≤ l / 2 ^ k := Int.ediv_nonneg hl.1 (by exact_mod_cast Nat.zero_le _)
      have p1 : 0 ≤ IntKind.u64.wrap h / 2 ^ k := Int.ediv_nonneg (by rw [IntKind.wrap_u64]; omega) (by exact_mod_cast Nat.zero_le _)
      have H0 := Lib.hid b0
      have H1 := Lib.hid b1
      clear b0 b1
      go_wp2
      go_roundw
      case rel =>
        refine ⟨k + 1, by omega, by go_num, ?_, (QR.other _ (by simp; omega) _).other _ (by simp; omega) _, below_set (below_set BB hgo _ _) hgo _ _⟩
        refine Row.fill (f := fun i => if i = k then bit (u128 (Wd.num h l)) k else if i < k ∨ (64 ≤ i ∧ i < 64 + k) then bit (u128 (Wd.num h l)) i else 0) ?_ ?_
        · exact QO.fill (fun i hi => by rw [H0.out])
        · intro i hi
          rw [← H1.out]
          by_cases e1 : i = 64 + k
          · subst e1; rw [if_pos rfl, if_pos (by omega)]
          · rw [if_neg e1]
            by_cases e2 : i = k
            · subst e2; rw [if_pos rfl, if_pos (by omega)]
            · rw [if_neg e2]
              by_cases e3 : i < k ∨ (64 ≤ i ∧ i < 64 + k)
              · rw [if_pos e3, if_pos (by omega)]
              · rw [if_neg e3, if_neg (by omega)]
      case measure => simp [intOf]; omega
    · have hk0 : k = 64 := by omega
      subst hk0
      have QO' : Row wr go (bv (u128 (Wd.num h l))) 34 := QO.as (fun i hi => by rw [if_pos (by omega)])
      clear QO
      go_wp2_with (first | (refine ev_load (N := 27) rfl rfl 34 _ rfl go rfl QO' _ Tryd.underlying34 rfl (info128 _) ?_) | (refine ev_store rfl 34 _ _ rfl gr _ rfl rfl QR (info128 _) (by rw [vec_size]; exact (vec_size _ _).symm) (vec_one _ _) rfl ?_; intro w7 RZ S7))
      exact bodyPost_ret (v := .agg (bv (u128 (Wd.num h l)))) (res_row rfl _ _ RZ rfl Tryd.underlying34 rfl (info128 _)) rfl ⟨rfl, S7.below BB hgr⟩

set_option maxHeartbeats 1000000 in
theorem refNumber_any (m : Nat) (hm : m < 2 ^ 128) (w : World) :
    Calls Tryd.prog 22 #[.agg (bv m)] w fun e w' => e = .returned (.tuple #[.int .i64 (Wd.hi (m : Int)), .int .u64 (Wd.lo (m : Int))]) ∧ Below w.heap.size w w' := by
  have hlo : ((m % 2 ^ 64 : Nat) : Int) = Wd.lo (m : Int) := by unfold Wd.lo; omega
  have hhi : wrap64 ((m / 2 ^ 64 % 2 ^ 64 : Nat) : Int) = Wd.hi (m : Int) := by unfold Wd.hi wrap64; omega
  have HLO := Lib.hid hlo
  have HHI := Lib.hid hhi
  clear hlo hhi hm
  go_enter Tryd.func22, Tryd.ntmps22
  go_wp2_with (first | (refine ev_box (N := 1) rfl rfl 34 _ rfl _ rfl ?_; intro ga w1 hga RA B1))
  go_loop [4, 5, 6] (fun h l i => ∃ k : Nat, k ≤ 64 ∧ i = .int .i64 k ∧ l = .int .u64 ((m % 2 ^ k : Nat) : Int) ∧ h = .int .u64 ((m / 2 ^ 64 % 2 ^ k : Nat) : Int)) (fun _ _ i => 64 - (intOf i).toNat)
  case atStart => exact ⟨0, by omega, rfl, by simp [Nat.mod_one], by simp [Nat.mod_one]⟩
  case round =>
    obtain ⟨k, hk, rfl, rfl, rfl⟩ := hrel
    by_cases hlt : k < 64
    · have c0 : w1.cell? ⟨ga, k, none⟩ = some (.int .i64 (bit m k)) := (RA.cell k).trans (vec_get _ _ _ (by omega))
      have c1 : w1.cell? ⟨ga, 64 + k, none⟩ = some (.int .i64 (bit m (64 + k))) := (RA.cell (64 + k)).trans (vec_get _ _ _ (by omega))
      have h0 : (0 : Int) ≤ (k : Int) := by omega
      have h1 : (k : Int) < 64 := by omega
      have s0 := sum_low m k hlt
      have s1 := sum_low (m / 2 ^ 64) k hlt
      rw [← bit_high] at s1
      have hb0 := bit_bd m k
      have hb1 := bit_bd m (64 + k)
      have g1 := Nat.mod_lt m (Nat.two_pow_pos k)
      have g2 := Nat.mod_lt (m / 2 ^ 64) (Nat.two_pow_pos k)
      generalize m % 2 ^ k = A at *
      generalize m / 2 ^ 64 % 2 ^ k = B at *
      have H0 := Lib.hid s0
      have H1 := Lib.hid s1
      clear s0 s1 g1 g2
      go_wp2
      go_round
      case rel => exact ⟨k + 1, by omega, by go_num, by rw [← H0.out], by rw [← H1.out]⟩
      case measure => simp [intOf]; omega
    · have hk0 : k = 64 := by omega
      subst hk0
      rw [HLO.out]
      generalize hH : ((m / 2 ^ 64 % 2 ^ 64 : Nat) : Int) = H at *
      have KH := Lib.hid hH
      clear hH
      go_wp2
      go_ret2
      refine ⟨?_, B1⟩
      rw [← HHI.out]
      exact congrArg (fun x => Ending.returned (.tuple #[.int .i64 x, .int .u64 (Wd.lo (m : Int))])) rfl

end Go.Proofs.YtpgjmhhdhngdcaaDoor
