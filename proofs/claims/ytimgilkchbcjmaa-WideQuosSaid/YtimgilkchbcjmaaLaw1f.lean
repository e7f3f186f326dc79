/-
  The machine's side of the law WideQuos: it answers true.
-/
import Derived.Test.YtimgilkchbcjmaaLaw1e
import Derived.Test.YtimgilkchbcjmaaRef01
namespace Go.Proofs.Ytimgilkchbcjmaa
open Go.RowKit
set_option linter.unusedVariables false
set_option linter.unusedSimpArgs false

theorem quo_raw_none (h l d : Int) (hh : Wd.I64 h) (hl : Wd.U64 l) (hd : Wd.I64 d) (hn : h < 0 ∨ d ≤ 0 ∨ d ≤ h) (w : World) :
    Calls Try.prog 26 #[.agg #[.int .i64 h, .int .u64 l], .int .i64 d] w fun e w' => e = .returned (.tuple #[.int .u64 0, .int .u64 0]) ∧ Below w.heap.size w w' := by
  have k := quo_none (Wd.num h l) d w (by rw [Wd.hi_num h l hh hl]; exact hn) hd
  rwa [Wd.hi_num h l hh hl, Wd.lo_num h l hl] at k
theorem quo_raw (h l d : Int) (hh : Wd.I64 h) (hl : Wd.U64 l) (hd : Wd.I64 d) (h1 : 0 ≤ h) (h2 : 0 < d) (h3 : h < d) :
    ∃ q r : Nat, (r : Int) < d ∧ q < 2 ^ 64 ∧ (q : Int) * d + r = Wd.num h l ∧
    ∀ w, Calls Try.prog 26 #[.agg #[.int .i64 h, .int .u64 l], .int .i64 d] w fun e w' => e = .returned (.tuple #[.int .u64 (q : Int), .int .u64 (r : Int)]) ∧ Below w.heap.size w w' := by
  have hn : 0 ≤ Wd.num h l := by unfold Wd.num; unfold Wd.U64 at hl; omega
  obtain ⟨A, hA⟩ := Int.eq_ofNat_of_zero_le hn
  obtain ⟨D, rfl⟩ := Int.eq_ofNat_of_zero_le (a := d) (by omega)
  have hlt : A < D * 18446744073709551616 := by unfold Wd.num at hA; unfold Wd.U64 at hl; omega
  have hD : 0 < D := by omega
  refine ⟨A / D, A % D, by have := Nat.mod_lt A hD; omega, Nat.div_lt_of_lt_mul hlt, ?_, fun w => ?_⟩
  · rw [hA]
    have := Nat.div_add_mod A D
    rw [Nat.mul_comm] at this
    exact_mod_cast this
  · have k := quo_any A D w hD hlt (by unfold Wd.I64 at hd; omega)
    rw [← hA, Wd.hi_num h l hh hl, Wd.lo_num h l hl] at k
    exact k

set_option maxRecDepth 100000 in
set_option maxHeartbeats 4000000 in
theorem quos_none_s (ah al d h e : Int) (w : World) (hl : Wd.U64 al) (e1 : (ah.tmod 1000) = h) (e2 : (d.tmod 100000) = e) (ih : Wd.I64 h) (ie : Wd.I64 e) (hn : h < 0 ∨ (0 ≤ h ∧ e ≤ 0) ∨ (0 ≤ h ∧ 0 < e ∧ e ≤ h)) :
    Calls Try.prog 9 #[.agg #[.int .i64 ah, .int .u64 al], .int .i64 d, .bool true] w fun e w' => e = .returned (.bool true) ∧ Below w.heap.size w w' := by
  rcases hn with hn | ⟨hn1, hn2⟩ | ⟨hn1, hn2, hn3⟩
  all_goals
    go_enter Try.func9, Try.ntmps9
    go_wp2_with fail
    refine (awake1 _).mono ?_
    rintro e w1 ⟨rfl, hb1⟩
    have R0 := (Row.new w #[.int .i64 ah, .int .u64 al] 28).below hb1
    have hB := below_then (below_alloc (Below.refl w.heap.size w) _) hb1
    have c0 : w1.cell? ⟨w.heap.size, 0, none⟩ = some (.int .i64 ah) := R0.cell 0
    have c1 : w1.cell? ⟨w.heap.size, 1, none⟩ = some (.int .u64 al) := R0.cell 1
    have f0 := R0.frozen 0
    clear hb1
    go_wp2_with fail
    have R1 : Row _ _ #[.int .i64 h, .int .u64 al] _ := R0.set 0 (.int .i64 h)
    have hB1 := below_set hB (Nat.le_refl _) 0 (.int .i64 h)
    clear R0 hB c0 c1 f0
    generalize w1.setCell ⟨w.heap.size, 0, none⟩ (.int .i64 h) = w2 at *
    refine (quo_raw_none h al e ih hl ie (by omega) _).mono ?_
    rintro _ w3 ⟨rfl, hb3⟩
    have R3 := R1.below hb3
    have hB3 := below_then hB1 hb3
    have c0 : w3.cell? ⟨w.heap.size, 0, none⟩ = some (.int .i64 h) := R3.cell 0
    have c1 : w3.cell? ⟨w.heap.size, 1, none⟩ = some (.int .u64 al) := R3.cell 1
    clear hb3 R1 hB1
    go_wp2
    go_ret
    exact ⟨rfl, hB3⟩

set_option maxRecDepth 100000 in
set_option maxHeartbeats 4000000 in
theorem quos_none_p (ah al d h e : Int) (w : World) (hl : Wd.U64 al) (e1 : ah = h) (e2 : d = e) (ih : Wd.I64 h) (ie : Wd.I64 e) (hn : h < 0 ∨ (0 ≤ h ∧ e ≤ 0) ∨ (0 ≤ h ∧ 0 < e ∧ e ≤ h)) :
    Calls Try.prog 9 #[.agg #[.int .i64 ah, .int .u64 al], .int .i64 d, .bool false] w fun e w' => e = .returned (.bool true) ∧ Below w.heap.size w w' := by
  subst e1 e2
  rcases hn with hn | ⟨hn1, hn2⟩ | ⟨hn1, hn2, hn3⟩
  all_goals
    go_enter Try.func9, Try.ntmps9
    go_wp2_with fail
    refine (awake1 _).mono ?_
    rintro e w1 ⟨rfl, hb1⟩
    have R0 := (Row.new w #[.int .i64 ah, .int .u64 al] 28).below hb1
    have hB := below_then (below_alloc (Below.refl w.heap.size w) _) hb1
    have c0 : w1.cell? ⟨w.heap.size, 0, none⟩ = some (.int .i64 ah) := R0.cell 0
    have c1 : w1.cell? ⟨w.heap.size, 1, none⟩ = some (.int .u64 al) := R0.cell 1
    clear hb1
    go_wp2_with fail
    clear c0 c1
    have R1 := R0
    have hB1 := hB
    refine (quo_raw_none ah al d ih hl ie (by omega) _).mono ?_
    rintro _ w3 ⟨rfl, hb3⟩
    have R3 := R1.below hb3
    have hB3 := below_then hB1 hb3
    have c0 : w3.cell? ⟨w.heap.size, 0, none⟩ = some (.int .i64 ah) := R3.cell 0
    have c1 : w3.cell? ⟨w.heap.size, 1, none⟩ = some (.int .u64 al) := R3.cell 1
    clear hb3 R1 hB1
    go_wp2
    go_ret
    exact ⟨rfl, hB3⟩

set_option maxRecDepth 100000 in
set_option maxHeartbeats 4000000 in
theorem quos_yes_s (ah al d h e : Int) (w : World) (hl : Wd.U64 al) (e1 : (ah.tmod 1000) = h) (e2 : (d.tmod 100000) = e) (ih : Wd.I64 h) (ie : Wd.I64 e) (h1 : 0 ≤ h) (h2 : 0 < e) (h3 : h < e) :
    Calls Try.prog 9 #[.agg #[.int .i64 ah, .int .u64 al], .int .i64 d, .bool true] w fun e w' => e = .returned (.bool true) ∧ Below w.heap.size w w' := by
  obtain ⟨q, r, hr, hq, hA, quoC⟩ := quo_raw h al e ih hl ie h1 h2 h3
  have QC := Lib.hid quoC
  clear quoC
  obtain ⟨D, hD⟩ := Int.eq_ofNat_of_zero_le (a := e) (by omega)
  have ie2 := ie.2
  have HD := Lib.hid hD
  have isC : Hid (∀ w : World, Calls Try.prog 14 #[.agg #[.int .i64 h, .int .u64 al], .agg (bv (u128 (Wd.num 0 (q : Int)) * D + u128 (Wd.num 0 (r : Int))))] w fun e w' => e = .returned (.bool true) ∧ Below w.heap.size w w') := Lib.hid fun w => by
    have k := is_at (Wd.num h al) (u128 (Wd.num 0 (q : Int)) * D + u128 (Wd.num 0 (r : Int))) (by
      rw [← hA, hD]
      have e1 : u128 (Wd.num 0 (q : Int)) = q := by unfold u128 Wd.num; omega
      have e2 : u128 (Wd.num 0 (r : Int)) = r := by unfold u128 Wd.num; omega
      rw [e1, e2]
      unfold u128
      have : ((q * D + r : Nat) : Int) = (q : Int) * (D : Int) + (r : Int) := by simp
      rw [← this]
      omega) w
    rwa [Wd.hi_num h al ih hl, Wd.lo_num h al hl] at k
  have bitsQ := Lib.hid (refBits_any 0 (q : Int) (by unfold Wd.I64; omega) (by unfold Wd.U64; omega))
  have bitsR := Lib.hid (refBits_any 0 (r : Int) (by unfold Wd.I64; omega) (by unfold Wd.U64; omega))
  have mulC : Hid (∀ w : World, Calls Try.prog 16 #[.agg (bv (u128 (Wd.num 0 (q : Int)))), .int .u64 e] w fun e w' => e = .returned (.agg (bv (u128 (Wd.num 0 (q : Int)) * D))) ∧ Below w.heap.size w w') := Lib.hid fun w => by
    have k := refMul_any (u128 (Wd.num 0 (q : Int))) D (by omega) w
    rwa [← hD] at k
  clear hA hq hD
  generalize u128 (Wd.num 0 (q : Int)) = x at *
  generalize u128 (Wd.num 0 (r : Int)) = y at *
  have hr0 : (0 : Int) ≤ (r : Int) := by omega
  go_enter Try.func9, Try.ntmps9
  go_wp2_with fail
  refine (awake1 _).mono ?_
  rintro e w1 ⟨rfl, hb1⟩
  have R0 := (Row.new w #[.int .i64 ah, .int .u64 al] 28).below hb1
  have hB := below_then (below_alloc (Below.refl w.heap.size w) _) hb1
  have c0 : w1.cell? ⟨w.heap.size, 0, none⟩ = some (.int .i64 ah) := R0.cell 0
  have c1 : w1.cell? ⟨w.heap.size, 1, none⟩ = some (.int .u64 al) := R0.cell 1
  have f0 := R0.frozen 0
  clear hb1
  go_wp2_with fail
  have R1 : Row _ _ #[.int .i64 h, .int .u64 al] _ := R0.set 0 (.int .i64 h)
  have hB1 := below_set hB (Nat.le_refl _) 0 (.int .i64 h)
  clear R0 hB c0 c1 f0
  generalize w1.setCell ⟨w.heap.size, 0, none⟩ (.int .i64 h) = w2 at *
  refine (QC.out _).mono ?_
  rintro _ w3 ⟨rfl, hb3⟩
  have R3 := R1.below hb3
  have hB3 := below_then hB1 hb3
  have c0 : w3.cell? ⟨w.heap.size, 0, none⟩ = some (.int .i64 h) := R3.cell 0
  have c1 : w3.cell? ⟨w.heap.size, 1, none⟩ = some (.int .u64 al) := R3.cell 1
  clear hb3 R1 hB1
  go_wp2_with fail
  refine (bitsQ.out _).mono ?_
  rintro _ w4 ⟨rfl, hb4⟩
  have R4 := R3.below hb4
  have hB4 := below_then hB3 hb4
  clear hb4 R3 hB3 c0 c1
  go_wp2_with fail
  refine (mulC.out _).mono ?_
  rintro _ w5 ⟨rfl, hb5⟩
  have R5 := R4.below hb5
  have hB5 := below_then hB4 hb5
  clear hb5 R4 hB4
  go_wp2_with fail
  refine (bitsR.out _).mono ?_
  rintro _ w6 ⟨rfl, hb6⟩
  have R6 := R5.below hb6
  have hB6 := below_then hB5 hb6
  clear hb6 R5 hB5
  go_wp2_with fail
  refine (refAdd_any (x * D) y _).mono ?_
  rintro _ w7 ⟨rfl, hb7⟩
  have R7 := R6.below hb7
  have hB7 := below_then hB6 hb7
  clear hb7 R6 hB6
  go_wp2_with (first | (refine ev_alloc (N := 9) rfl rfl 23 rfl _ zero128 ?_; intro gx w8 hgx RX B2; have ng := Nat.lt_of_lt_of_le R7.lt hgx; replace hgx := Nat.le_trans hB7.size hgx; replace hB7 := below_then hB7 B2; replace R7 := R7.below B2; clear B2) | (refine ev_store rfl 23 _ _ rfl gx _ rfl rfl RX (info128 _) (by rw [vec_size]; exact (vec_size _ _).symm) (vec_one _ _) rfl ?_; clear RX; intro w9 RZ S9; replace hB7 := S9.below hB7 hgx; replace R7 := R7.stored S9 (by omega); clear S9; have c0 : w9.cell? ⟨w.heap.size, 0, none⟩ = some (.int .i64 h) := R7.cell 0; have c1 : w9.cell? ⟨w.heap.size, 1, none⟩ = some (.int .u64 al) := R7.cell 1) | (refine ev_load_g (N := 58) rfl rfl 23 _ rfl gx rfl RZ _ Try.underlying23 rfl (info128 _) ?_) | (go_at_call 14; refine (isC.out _).mono ?_; rintro _ w10 ⟨rfl, B10⟩; replace hB7 := below_then hB7 B10))
  go_ret
  exact ⟨rfl, hB7⟩

set_option maxRecDepth 100000 in
set_option maxHeartbeats 4000000 in
theorem quos_yes_p (ah al d h e : Int) (w : World) (hl : Wd.U64 al) (e1 : ah = h) (e2 : d = e) (ih : Wd.I64 h) (ie : Wd.I64 e) (h1 : 0 ≤ h) (h2 : 0 < e) (h3 : h < e) :
    Calls Try.prog 9 #[.agg #[.int .i64 ah, .int .u64 al], .int .i64 d, .bool false] w fun e w' => e = .returned (.bool true) ∧ Below w.heap.size w w' := by
  subst e1 e2
  obtain ⟨q, r, hr, hq, hA, quoC⟩ := quo_raw ah al d ih hl ie h1 h2 h3
  have QC := Lib.hid quoC
  clear quoC
  obtain ⟨D, hD⟩ := Int.eq_ofNat_of_zero_le (a := d) (by omega)
  have ie2 := ie.2
  have HD := Lib.hid hD
  have isC : Hid (∀ w : World, Calls Try.prog 14 #[.agg #[.int .i64 ah, .int .u64 al], .agg (bv (u128 (Wd.num 0 (q : Int)) * D + u128 (Wd.num 0 (r : Int))))] w fun e w' => e = .returned (.bool true) ∧ Below w.heap.size w w') := Lib.hid fun w => by
    have k := is_at (Wd.num ah al) (u128 (Wd.num 0 (q : Int)) * D + u128 (Wd.num 0 (r : Int))) (by
      rw [← hA, hD]
      have e1 : u128 (Wd.num 0 (q : Int)) = q := by unfold u128 Wd.num; omega
      have e2 : u128 (Wd.num 0 (r : Int)) = r := by unfold u128 Wd.num; omega
      rw [e1, e2]
      unfold u128
      have : ((q * D + r : Nat) : Int) = (q : Int) * (D : Int) + (r : Int) := by simp
      rw [← this]
      omega) w
    rwa [Wd.hi_num ah al ih hl, Wd.lo_num ah al hl] at k
  have bitsQ := Lib.hid (refBits_any 0 (q : Int) (by unfold Wd.I64; omega) (by unfold Wd.U64; omega))
  have bitsR := Lib.hid (refBits_any 0 (r : Int) (by unfold Wd.I64; omega) (by unfold Wd.U64; omega))
  have mulC : Hid (∀ w : World, Calls Try.prog 16 #[.agg (bv (u128 (Wd.num 0 (q : Int)))), .int .u64 d] w fun e w' => e = .returned (.agg (bv (u128 (Wd.num 0 (q : Int)) * D))) ∧ Below w.heap.size w w') := Lib.hid fun w => by
    have k := refMul_any (u128 (Wd.num 0 (q : Int))) D (by omega) w
    rwa [← hD] at k
  clear hA hq hD
  generalize u128 (Wd.num 0 (q : Int)) = x at *
  generalize u128 (Wd.num 0 (r : Int)) = y at *
  have hr0 : (0 : Int) ≤ (r : Int) := by omega
  go_enter Try.func9, Try.ntmps9
  go_wp2_with fail
  refine (awake1 _).mono ?_
  rintro e w1 ⟨rfl, hb1⟩
  have R0 := (Row.new w #[.int .i64 ah, .int .u64 al] 28).below hb1
  have hB := below_then (below_alloc (Below.refl w.heap.size w) _) hb1
  have c0 : w1.cell? ⟨w.heap.size, 0, none⟩ = some (.int .i64 ah) := R0.cell 0
  have c1 : w1.cell? ⟨w.heap.size, 1, none⟩ = some (.int .u64 al) := R0.cell 1
  clear hb1
  go_wp2_with fail
  clear c0 c1
  have R1 := R0
  have hB1 := hB
  refine (QC.out _).mono ?_
  rintro _ w3 ⟨rfl, hb3⟩
  have R3 := R1.below hb3
  have hB3 := below_then hB1 hb3
  have c0 : w3.cell? ⟨w.heap.size, 0, none⟩ = some (.int .i64 ah) := R3.cell 0
  have c1 : w3.cell? ⟨w.heap.size, 1, none⟩ = some (.int .u64 al) := R3.cell 1
  clear hb3 R1 hB1
  go_wp2_with fail
  refine (bitsQ.out _).mono ?_
  rintro _ w4 ⟨rfl, hb4⟩
  have R4 := R3.below hb4
  have hB4 := below_then hB3 hb4
  clear hb4 R3 hB3 c0 c1
  go_wp2_with fail
  refine (mulC.out _).mono ?_
  rintro _ w5 ⟨rfl, hb5⟩
  have R5 := R4.below hb5
  have hB5 := below_then hB4 hb5
  clear hb5 R4 hB4
  go_wp2_with fail
  refine (bitsR.out _).mono ?_
  rintro _ w6 ⟨rfl, hb6⟩
  have R6 := R5.below hb6
  have hB6 := below_then hB5 hb6
  clear hb6 R5 hB5
  go_wp2_with fail
  refine (refAdd_any (x * D) y _).mono ?_
  rintro _ w7 ⟨rfl, hb7⟩
  have R7 := R6.below hb7
  have hB7 := below_then hB6 hb7
  clear hb7 R6 hB6
  go_wp2_with (first | (refine ev_alloc (N := 9) rfl rfl 23 rfl _ zero128 ?_; intro gx w8 hgx RX B2; have ng := Nat.lt_of_lt_of_le R7.lt hgx; replace hgx := Nat.le_trans hB7.size hgx; replace hB7 := below_then hB7 B2; replace R7 := R7.below B2; clear B2) | (refine ev_store rfl 23 _ _ rfl gx _ rfl rfl RX (info128 _) (by rw [vec_size]; exact (vec_size _ _).symm) (vec_one _ _) rfl ?_; clear RX; intro w9 RZ S9; replace hB7 := S9.below hB7 hgx; replace R7 := R7.stored S9 (by omega); clear S9; have c0 : w9.cell? ⟨w.heap.size, 0, none⟩ = some (.int .i64 ah) := R7.cell 0; have c1 : w9.cell? ⟨w.heap.size, 1, none⟩ = some (.int .u64 al) := R7.cell 1) | (refine ev_load_g (N := 58) rfl rfl 23 _ rfl gx rfl RZ _ Try.underlying23 rfl (info128 _) ?_) | (go_at_call 14; refine (isC.out _).mono ?_; rintro _ w10 ⟨rfl, B10⟩; replace hB7 := below_then hB7 B10))
  go_ret
  exact ⟨rfl, hB7⟩

theorem wideQuos_any (ah al d : Int) (small : Bool) (w : World) (hh : Wd.I64 ah) (hl : Wd.U64 al) (hd : Wd.I64 d) :
    Calls Try.prog 9 #[.agg #[.int .i64 ah, .int .u64 al], .int .i64 d, .bool small] w fun e w' => e = .returned (.bool true) ∧ Below w.heap.size w w' := by
  cases small with
  | false =>
    by_cases c : 0 ≤ ah ∧ 0 < d ∧ ah < d
    · exact quos_yes_p ah al d ah d w hl rfl rfl hh hd c.1 c.2.1 c.2.2
    · exact quos_none_p ah al d ah d w hl rfl rfl hh hd (by omega)
  | true =>
    have b1 : Wd.I64 (ah.tmod 1000) := by
      have h1 := Int.lt_tmod_of_pos ah (show (0 : Int) < 1000 by omega)
      have h2 := Int.tmod_lt_of_pos ah (show (0 : Int) < 1000 by omega)
      unfold Wd.I64; omega
    have b2 : Wd.I64 (d.tmod 100000) := by
      have h1 := Int.lt_tmod_of_pos d (show (0 : Int) < 100000 by omega)
      have h2 := Int.tmod_lt_of_pos d (show (0 : Int) < 100000 by omega)
      unfold Wd.I64; omega
    by_cases c : 0 ≤ ah.tmod 1000 ∧ 0 < d.tmod 100000 ∧ ah.tmod 1000 < d.tmod 100000
    · exact quos_yes_s ah al d _ _ w hl rfl rfl b1 b2 c.1 c.2.1 c.2.2
    · exact quos_none_s ah al d _ _ w hl rfl rfl b1 b2 (by omega)
end Go.Proofs.Ytimgilkchbcjmaa
