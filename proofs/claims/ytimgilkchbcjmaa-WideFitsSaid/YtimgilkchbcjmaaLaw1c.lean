/-
  The machine's side of the law WideFits: it answers true.
-/
import Derived.Test.YtimgilkchbcjmaaLaw1a
namespace Go.Proofs.Ytimgilkchbcjmaa
open Go.RowKit
set_option linter.unusedVariables false
set_option linter.unusedSimpArgs false

def Wd.Fit (h l : Int) : Prop := (h = 0 ∧ l < 9223372036854775808) ∨ (h = -1 ∧ 9223372036854775808 ≤ l)
theorem fits_raw_yes (h l : Int) (hh : Wd.I64 h) (hl : Wd.U64 l) (hf : Wd.Fit h l) (w : World) :
    Calls Try.prog 24 #[.agg #[.int .i64 h, .int .u64 l]] w fun e w' => e = .returned (.tuple #[.int .i64 (wrap64 l), .bool true]) ∧ Below w.heap.size w w' := by
  have e : Wd.hi (wrap64 (Wd.lo (Wd.num h l))) = Wd.hi (Wd.num h l) := by
    rw [Wd.lo_num h l hl, Wd.hi_num h l hh hl]
    unfold Wd.Fit at hf; unfold Wd.hi wrap64; unfold Wd.U64 at hl; omega
  have k := fits_yes (Wd.num h l) w e
  rwa [Wd.hi_num h l hh hl, Wd.lo_num h l hl] at k
theorem fits_raw_no (h l : Int) (hh : Wd.I64 h) (hl : Wd.U64 l) (hf : ¬ Wd.Fit h l) (w : World) :
    Calls Try.prog 24 #[.agg #[.int .i64 h, .int .u64 l]] w fun e w' => e = .returned (.tuple #[.int .i64 0, .bool false]) ∧ Below w.heap.size w w' := by
  have e : ¬ Wd.hi (wrap64 (Wd.lo (Wd.num h l))) = Wd.hi (Wd.num h l) := by
    rw [Wd.lo_num h l hl, Wd.hi_num h l hh hl]
    intro e2; apply hf
    unfold Wd.Fit; unfold Wd.hi wrap64 at e2; unfold Wd.U64 at hl; omega
  have k := fits_no (Wd.num h l) w e
  rwa [Wd.hi_num h l hh hl, Wd.lo_num h l hl] at k
theorem Wd.back (l : Int) (hl : Wd.U64 l) : IntKind.u64.wrap (wrap64 l) = l := by unfold Wd.U64 at hl; rw [IntKind.wrap_u64]; unfold wrap64; omega
theorem Wd.wrap_U64 (n : Int) : Wd.U64 (IntKind.u64.wrap n) := by unfold Wd.U64; rw [IntKind.wrap_u64]; omega

set_option maxHeartbeats 1000000 in
theorem fits_f1 (ah al n : Int) (w : World) (hh : Wd.I64 ah) (hl : Wd.U64 al) (hn : Wd.I64 n) (h1 : al < 9223372036854775808) :
    Calls Try.prog 7 #[.agg #[.int .i64 0, .int .u64 al], .int .i64 n, .bool false] w fun e w' => e = .returned (.bool true) ∧ Below w.heap.size w w' := by
  have hback := Wd.back al hl
  have g1 : decide (al < 9223372036854775808) = true := by simp; omega
  have g2 : decide (9223372036854775808 ≤ al) = false := by simp; omega
  go_enter Try.func7, Try.ntmps7
  go_wp2_with fail
  refine (awake1 _).mono ?_
  rintro e w1 ⟨rfl, hb1⟩
  have R0 := (Row.new w #[.int .i64 0, .int .u64 al] 28).below hb1
  have hB := below_then (below_alloc (Below.refl w.heap.size w) _) hb1
  have c0 : w1.cell? ⟨w.heap.size, 0, none⟩ = some (.int .i64 0) := R0.cell 0
  have c1 : w1.cell? ⟨w.heap.size, 1, none⟩ = some (.int .u64 al) := R0.cell 1
  have f0 := R0.frozen 0
  have f1 := R0.frozen 1
  clear hb1
  go_wp2_with fail
  refine (fits_raw_yes 0 al (by unfold Wd.I64 at *; omega) hl (by unfold Wd.Fit; omega) _).mono ?_
  rintro e w2 ⟨rfl, hb2⟩
  have hB2 := below_then hB hb2
  have R1 := R0.below hb2
  have d0 : w2.cell? ⟨w.heap.size, 0, none⟩ = some (.int .i64 0) := R1.cell 0
  have d1 : w2.cell? ⟨w.heap.size, 1, none⟩ = some (.int .u64 al) := R1.cell 1
  clear hb2 c0 c1 R0 f0 f1 hB
  go_wp2
  go_ret
  exact ⟨rfl, hB2⟩

set_option maxHeartbeats 1000000 in
theorem fits_f2 (ah al n : Int) (w : World) (hh : Wd.I64 ah) (hl : Wd.U64 al) (hn : Wd.I64 n) (h1 : 9223372036854775808 ≤ al) :
    Calls Try.prog 7 #[.agg #[.int .i64 (-1), .int .u64 al], .int .i64 n, .bool false] w fun e w' => e = .returned (.bool true) ∧ Below w.heap.size w w' := by
  have hback := Wd.back al hl
  have um : IntKind.u64.wrap (-1) = 18446744073709551615 := by rw [IntKind.wrap_u64]; rfl
  have g1 : decide (al < 9223372036854775808) = false := by simp; omega
  have g2 : decide (9223372036854775808 ≤ al) = true := by simp; omega
  go_enter Try.func7, Try.ntmps7
  go_wp2_with fail
  refine (awake1 _).mono ?_
  rintro e w1 ⟨rfl, hb1⟩
  have R0 := (Row.new w #[.int .i64 (-1), .int .u64 al] 28).below hb1
  have hB := below_then (below_alloc (Below.refl w.heap.size w) _) hb1
  have c0 : w1.cell? ⟨w.heap.size, 0, none⟩ = some (.int .i64 (-1)) := R0.cell 0
  have c1 : w1.cell? ⟨w.heap.size, 1, none⟩ = some (.int .u64 al) := R0.cell 1
  have f0 := R0.frozen 0
  have f1 := R0.frozen 1
  clear hb1
  go_wp2_with fail
  refine (fits_raw_yes (-1) al (by unfold Wd.I64 at *; omega) hl (by unfold Wd.Fit; omega) _).mono ?_
  rintro e w2 ⟨rfl, hb2⟩
  have hB2 := below_then hB hb2
  have R1 := R0.below hb2
  have d0 : w2.cell? ⟨w.heap.size, 0, none⟩ = some (.int .i64 (-1)) := R1.cell 0
  have d1 : w2.cell? ⟨w.heap.size, 1, none⟩ = some (.int .u64 al) := R1.cell 1
  clear hb2 c0 c1 R0 f0 f1 hB
  go_wp2
  go_ret
  exact ⟨rfl, hB2⟩

set_option maxHeartbeats 1000000 in
theorem fits_f3 (ah al n : Int) (w : World) (hh : Wd.I64 ah) (hl : Wd.U64 al) (hn : Wd.I64 n) (h1 : 9223372036854775808 ≤ al) :
    Calls Try.prog 7 #[.agg #[.int .i64 0, .int .u64 al], .int .i64 n, .bool false] w fun e w' => e = .returned (.bool true) ∧ Below w.heap.size w w' := by
  have hback := Wd.back al hl
  have g1 : decide (al < 9223372036854775808) = false := by simp; omega
  have g2 : decide (9223372036854775808 ≤ al) = true := by simp; omega
  go_enter Try.func7, Try.ntmps7
  go_wp2_with fail
  refine (awake1 _).mono ?_
  rintro e w1 ⟨rfl, hb1⟩
  have R0 := (Row.new w #[.int .i64 0, .int .u64 al] 28).below hb1
  have hB := below_then (below_alloc (Below.refl w.heap.size w) _) hb1
  have c0 : w1.cell? ⟨w.heap.size, 0, none⟩ = some (.int .i64 0) := R0.cell 0
  have c1 : w1.cell? ⟨w.heap.size, 1, none⟩ = some (.int .u64 al) := R0.cell 1
  have f0 := R0.frozen 0
  have f1 := R0.frozen 1
  clear hb1
  go_wp2_with fail
  refine (fits_raw_no 0 al (by unfold Wd.I64 at *; omega) hl (by unfold Wd.Fit; omega) _).mono ?_
  rintro e w2 ⟨rfl, hb2⟩
  have hB2 := below_then hB hb2
  have R1 := R0.below hb2
  have d0 : w2.cell? ⟨w.heap.size, 0, none⟩ = some (.int .i64 0) := R1.cell 0
  have d1 : w2.cell? ⟨w.heap.size, 1, none⟩ = some (.int .u64 al) := R1.cell 1
  clear hb2 c0 c1 R0 f0 f1 hB
  go_wp2
  go_ret
  exact ⟨rfl, hB2⟩

set_option maxHeartbeats 1000000 in
theorem fits_f4 (ah al n : Int) (w : World) (hh : Wd.I64 ah) (hl : Wd.U64 al) (hn : Wd.I64 n) (h1 : al < 9223372036854775808) :
    Calls Try.prog 7 #[.agg #[.int .i64 (-1), .int .u64 al], .int .i64 n, .bool false] w fun e w' => e = .returned (.bool true) ∧ Below w.heap.size w w' := by
  have hback := Wd.back al hl
  have um : IntKind.u64.wrap (-1) = 18446744073709551615 := by rw [IntKind.wrap_u64]; rfl
  have g1 : decide (al < 9223372036854775808) = true := by simp; omega
  have g2 : decide (9223372036854775808 ≤ al) = false := by simp; omega
  go_enter Try.func7, Try.ntmps7
  go_wp2_with fail
  refine (awake1 _).mono ?_
  rintro e w1 ⟨rfl, hb1⟩
  have R0 := (Row.new w #[.int .i64 (-1), .int .u64 al] 28).below hb1
  have hB := below_then (below_alloc (Below.refl w.heap.size w) _) hb1
  have c0 : w1.cell? ⟨w.heap.size, 0, none⟩ = some (.int .i64 (-1)) := R0.cell 0
  have c1 : w1.cell? ⟨w.heap.size, 1, none⟩ = some (.int .u64 al) := R0.cell 1
  have f0 := R0.frozen 0
  have f1 := R0.frozen 1
  clear hb1
  go_wp2_with fail
  refine (fits_raw_no (-1) al (by unfold Wd.I64 at *; omega) hl (by unfold Wd.Fit; omega) _).mono ?_
  rintro e w2 ⟨rfl, hb2⟩
  have hB2 := below_then hB hb2
  have R1 := R0.below hb2
  have d0 : w2.cell? ⟨w.heap.size, 0, none⟩ = some (.int .i64 (-1)) := R1.cell 0
  have d1 : w2.cell? ⟨w.heap.size, 1, none⟩ = some (.int .u64 al) := R1.cell 1
  clear hb2 c0 c1 R0 f0 f1 hB
  go_wp2
  go_ret
  exact ⟨rfl, hB2⟩

set_option maxHeartbeats 1000000 in
theorem fits_f5 (ah al n : Int) (w : World) (hh : Wd.I64 ah) (hl : Wd.U64 al) (hn : Wd.I64 n) (h1 : ah ≠ 0) (h2 : ah ≠ -1) :
    Calls Try.prog 7 #[.agg #[.int .i64 ah, .int .u64 al], .int .i64 n, .bool false] w fun e w' => e = .returned (.bool true) ∧ Below w.heap.size w w' := by
  have hback := Wd.back al hl
  have t1 : ¬ IntKind.u64.wrap ah = 0 := by unfold Wd.I64 at hh; rw [IntKind.wrap_u64]; omega
  have t2 : ¬ IntKind.u64.wrap ah = 18446744073709551615 := by unfold Wd.I64 at hh; rw [IntKind.wrap_u64]; omega
  have t3 : (IntKind.u64.wrap ah == 0) = false := beq_eq_false_iff_ne.mpr t1
  have t4 : (IntKind.u64.wrap ah == 18446744073709551615) = false := beq_eq_false_iff_ne.mpr t2
  clear t1 t2
  go_enter Try.func7, Try.ntmps7
  go_wp2_with fail
  refine (awake1 _).mono ?_
  rintro e w1 ⟨rfl, hb1⟩
  have R0 := (Row.new w #[.int .i64 ah, .int .u64 al] 28).below hb1
  have hB := below_then (below_alloc (Below.refl w.heap.size w) _) hb1
  have c0 : w1.cell? ⟨w.heap.size, 0, none⟩ = some (.int .i64 ah) := R0.cell 0
  have c1 : w1.cell? ⟨w.heap.size, 1, none⟩ = some (.int .u64 al) := R0.cell 1
  have f0 := R0.frozen 0
  have f1 := R0.frozen 1
  clear hb1
  go_wp2_with fail
  refine (fits_raw_no ah al (by unfold Wd.I64 at *; omega) hl (by unfold Wd.Fit; omega) _).mono ?_
  rintro e w2 ⟨rfl, hb2⟩
  have hB2 := below_then hB hb2
  have R1 := R0.below hb2
  have d0 : w2.cell? ⟨w.heap.size, 0, none⟩ = some (.int .i64 ah) := R1.cell 0
  have d1 : w2.cell? ⟨w.heap.size, 1, none⟩ = some (.int .u64 al) := R1.cell 1
  clear hb2 c0 c1 R0 f0 f1 hB
  go_wp2
  go_ret
  exact ⟨rfl, hB2⟩

set_option maxHeartbeats 1000000 in
theorem fits_t1 (ah al n : Int) (w : World) (hh : Wd.I64 ah) (hl : Wd.U64 al) (hn : Wd.I64 n) (ht : ah.tmod 2 = 0) (h1 : IntKind.u64.wrap n < 9223372036854775808) :
    Calls Try.prog 7 #[.agg #[.int .i64 ah, .int .u64 al], .int .i64 n, .bool true] w fun e w' => e = .returned (.bool true) ∧ Below w.heap.size w w' := by
  have hback := Wd.back (IntKind.u64.wrap n) (Wd.wrap_U64 n)
  have g1 : decide ((IntKind.u64.wrap n) < 9223372036854775808) = true := by simp; omega
  have g2 : decide (9223372036854775808 ≤ (IntKind.u64.wrap n)) = false := by simp; omega
  go_enter Try.func7, Try.ntmps7
  go_wp2_with fail
  refine (awake1 _).mono ?_
  rintro e w1 ⟨rfl, hb1⟩
  have R0 := (Row.new w #[.int .i64 ah, .int .u64 al] 28).below hb1
  have hB := below_then (below_alloc (Below.refl w.heap.size w) _) hb1
  have c0 : w1.cell? ⟨w.heap.size, 0, none⟩ = some (.int .i64 ah) := R0.cell 0
  have c1 : w1.cell? ⟨w.heap.size, 1, none⟩ = some (.int .u64 al) := R0.cell 1
  have f0 := R0.frozen 0
  have f1 := R0.frozen 1
  clear hb1
  go_wp2_with fail
  refine (fits_raw_yes 0 (IntKind.u64.wrap n) (by unfold Wd.I64; omega) (Wd.wrap_U64 n) (by unfold Wd.Fit; omega) _).mono ?_
  rintro e w2 ⟨rfl, hb2⟩
  have hB2 := below_then (below_set (below_set hB (Nat.le_refl _) _ _) (Nat.le_refl _) _ _) hb2
  have R1 := ((R0.set 0 _).set 1 _).below hb2
  have d0 : w2.cell? ⟨w.heap.size, 0, none⟩ = some (.int .i64 0) := R1.cell 0
  have d1 : w2.cell? ⟨w.heap.size, 1, none⟩ = some (.int .u64 (IntKind.u64.wrap n)) := R1.cell 1
  clear hb2 c0 c1 R0 f0 f1 hB
  go_wp2
  go_ret
  exact ⟨rfl, hB2⟩

set_option maxHeartbeats 1000000 in
theorem fits_t2 (ah al n : Int) (w : World) (hh : Wd.I64 ah) (hl : Wd.U64 al) (hn : Wd.I64 n) (ht : ah.tmod 2 = -1) (h1 : 9223372036854775808 ≤ IntKind.u64.wrap n) :
    Calls Try.prog 7 #[.agg #[.int .i64 ah, .int .u64 al], .int .i64 n, .bool true] w fun e w' => e = .returned (.bool true) ∧ Below w.heap.size w w' := by
  have hback := Wd.back (IntKind.u64.wrap n) (Wd.wrap_U64 n)
  have um : IntKind.u64.wrap (-1) = 18446744073709551615 := by rw [IntKind.wrap_u64]; rfl
  have g1 : decide ((IntKind.u64.wrap n) < 9223372036854775808) = false := by simp; omega
  have g2 : decide (9223372036854775808 ≤ (IntKind.u64.wrap n)) = true := by simp; omega
  go_enter Try.func7, Try.ntmps7
  go_wp2_with fail
  refine (awake1 _).mono ?_
  rintro e w1 ⟨rfl, hb1⟩
  have R0 := (Row.new w #[.int .i64 ah, .int .u64 al] 28).below hb1
  have hB := below_then (below_alloc (Below.refl w.heap.size w) _) hb1
  have c0 : w1.cell? ⟨w.heap.size, 0, none⟩ = some (.int .i64 ah) := R0.cell 0
  have c1 : w1.cell? ⟨w.heap.size, 1, none⟩ = some (.int .u64 al) := R0.cell 1
  have f0 := R0.frozen 0
  have f1 := R0.frozen 1
  clear hb1
  go_wp2_with fail
  refine (fits_raw_yes (-1) (IntKind.u64.wrap n) (by unfold Wd.I64; omega) (Wd.wrap_U64 n) (by unfold Wd.Fit; omega) _).mono ?_
  rintro e w2 ⟨rfl, hb2⟩
  have hB2 := below_then (below_set (below_set hB (Nat.le_refl _) _ _) (Nat.le_refl _) _ _) hb2
  have R1 := ((R0.set 0 _).set 1 _).below hb2
  have d0 : w2.cell? ⟨w.heap.size, 0, none⟩ = some (.int .i64 (-1)) := R1.cell 0
  have d1 : w2.cell? ⟨w.heap.size, 1, none⟩ = some (.int .u64 (IntKind.u64.wrap n)) := R1.cell 1
  clear hb2 c0 c1 R0 f0 f1 hB
  go_wp2
  go_ret
  exact ⟨rfl, hB2⟩

set_option maxHeartbeats 1000000 in
theorem fits_t3 (ah al n : Int) (w : World) (hh : Wd.I64 ah) (hl : Wd.U64 al) (hn : Wd.I64 n) (ht : ah.tmod 2 = 0) (h1 : 9223372036854775808 ≤ IntKind.u64.wrap n) :
    Calls Try.prog 7 #[.agg #[.int .i64 ah, .int .u64 al], .int .i64 n, .bool true] w fun e w' => e = .returned (.bool true) ∧ Below w.heap.size w w' := by
  have hback := Wd.back (IntKind.u64.wrap n) (Wd.wrap_U64 n)
  have g1 : decide ((IntKind.u64.wrap n) < 9223372036854775808) = false := by simp; omega
  have g2 : decide (9223372036854775808 ≤ (IntKind.u64.wrap n)) = true := by simp; omega
  go_enter Try.func7, Try.ntmps7
  go_wp2_with fail
  refine (awake1 _).mono ?_
  rintro e w1 ⟨rfl, hb1⟩
  have R0 := (Row.new w #[.int .i64 ah, .int .u64 al] 28).below hb1
  have hB := below_then (below_alloc (Below.refl w.heap.size w) _) hb1
  have c0 : w1.cell? ⟨w.heap.size, 0, none⟩ = some (.int .i64 ah) := R0.cell 0
  have c1 : w1.cell? ⟨w.heap.size, 1, none⟩ = some (.int .u64 al) := R0.cell 1
  have f0 := R0.frozen 0
  have f1 := R0.frozen 1
  clear hb1
  go_wp2_with fail
  refine (fits_raw_no 0 (IntKind.u64.wrap n) (by unfold Wd.I64; omega) (Wd.wrap_U64 n) (by unfold Wd.Fit; omega) _).mono ?_
  rintro e w2 ⟨rfl, hb2⟩
  have hB2 := below_then (below_set (below_set hB (Nat.le_refl _) _ _) (Nat.le_refl _) _ _) hb2
  have R1 := ((R0.set 0 _).set 1 _).below hb2
  have d0 : w2.cell? ⟨w.heap.size, 0, none⟩ = some (.int .i64 0) := R1.cell 0
  have d1 : w2.cell? ⟨w.heap.size, 1, none⟩ = some (.int .u64 (IntKind.u64.wrap n)) := R1.cell 1
  clear hb2 c0 c1 R0 f0 f1 hB
  go_wp2
  go_ret
  exact ⟨rfl, hB2⟩

set_option maxHeartbeats 1000000 in
theorem fits_t4 (ah al n : Int) (w : World) (hh : Wd.I64 ah) (hl : Wd.U64 al) (hn : Wd.I64 n) (ht : ah.tmod 2 = -1) (h1 : IntKind.u64.wrap n < 9223372036854775808) :
    Calls Try.prog 7 #[.agg #[.int .i64 ah, .int .u64 al], .int .i64 n, .bool true] w fun e w' => e = .returned (.bool true) ∧ Below w.heap.size w w' := by
  have hback := Wd.back (IntKind.u64.wrap n) (Wd.wrap_U64 n)
  have um : IntKind.u64.wrap (-1) = 18446744073709551615 := by rw [IntKind.wrap_u64]; rfl
  have g1 : decide ((IntKind.u64.wrap n) < 9223372036854775808) = true := by simp; omega
  have g2 : decide (9223372036854775808 ≤ (IntKind.u64.wrap n)) = false := by simp; omega
  go_enter Try.func7, Try.ntmps7
  go_wp2_with fail
  refine (awake1 _).mono ?_
  rintro e w1 ⟨rfl, hb1⟩
  have R0 := (Row.new w #[.int .i64 ah, .int .u64 al] 28).below hb1
  have hB := below_then (below_alloc (Below.refl w.heap.size w) _) hb1
  have c0 : w1.cell? ⟨w.heap.size, 0, none⟩ = some (.int .i64 ah) := R0.cell 0
  have c1 : w1.cell? ⟨w.heap.size, 1, none⟩ = some (.int .u64 al) := R0.cell 1
  have f0 := R0.frozen 0
  have f1 := R0.frozen 1
  clear hb1
  go_wp2_with fail
  refine (fits_raw_no (-1) (IntKind.u64.wrap n) (by unfold Wd.I64; omega) (Wd.wrap_U64 n) (by unfold Wd.Fit; omega) _).mono ?_
  rintro e w2 ⟨rfl, hb2⟩
  have hB2 := below_then (below_set (below_set hB (Nat.le_refl _) _ _) (Nat.le_refl _) _ _) hb2
  have R1 := ((R0.set 0 _).set 1 _).below hb2
  have d0 : w2.cell? ⟨w.heap.size, 0, none⟩ = some (.int .i64 (-1)) := R1.cell 0
  have d1 : w2.cell? ⟨w.heap.size, 1, none⟩ = some (.int .u64 (IntKind.u64.wrap n)) := R1.cell 1
  clear hb2 c0 c1 R0 f0 f1 hB
  go_wp2
  go_ret
  exact ⟨rfl, hB2⟩

set_option maxHeartbeats 1000000 in
theorem fits_t5 (ah al n : Int) (w : World) (hh : Wd.I64 ah) (hl : Wd.U64 al) (hn : Wd.I64 n) (ht : ah.tmod 2 = 1) :
    Calls Try.prog 7 #[.agg #[.int .i64 ah, .int .u64 al], .int .i64 n, .bool true] w fun e w' => e = .returned (.bool true) ∧ Below w.heap.size w w' := by
  have hback := Wd.back (IntKind.u64.wrap n) (Wd.wrap_U64 n)
  have um : IntKind.u64.wrap 1 = 1 := by rw [IntKind.wrap_u64]; rfl
  go_enter Try.func7, Try.ntmps7
  go_wp2_with fail
  refine (awake1 _).mono ?_
  rintro e w1 ⟨rfl, hb1⟩
  have R0 := (Row.new w #[.int .i64 ah, .int .u64 al] 28).below hb1
  have hB := below_then (below_alloc (Below.refl w.heap.size w) _) hb1
  have c0 : w1.cell? ⟨w.heap.size, 0, none⟩ = some (.int .i64 ah) := R0.cell 0
  have c1 : w1.cell? ⟨w.heap.size, 1, none⟩ = some (.int .u64 al) := R0.cell 1
  have f0 := R0.frozen 0
  have f1 := R0.frozen 1
  clear hb1
  go_wp2_with fail
  refine (fits_raw_no 1 (IntKind.u64.wrap n) (by unfold Wd.I64; omega) (Wd.wrap_U64 n) (by unfold Wd.Fit; omega) _).mono ?_
  rintro e w2 ⟨rfl, hb2⟩
  have hB2 := below_then (below_set (below_set hB (Nat.le_refl _) _ _) (Nat.le_refl _) _ _) hb2
  have R1 := ((R0.set 0 _).set 1 _).below hb2
  have d0 : w2.cell? ⟨w.heap.size, 0, none⟩ = some (.int .i64 1) := R1.cell 0
  have d1 : w2.cell? ⟨w.heap.size, 1, none⟩ = some (.int .u64 (IntKind.u64.wrap n)) := R1.cell 1
  clear hb2 c0 c1 R0 f0 f1 hB
  go_wp2
  go_ret
  exact ⟨rfl, hB2⟩

theorem wideFits_any (ah al n : Int) (own : Bool) (w : World) (hh : Wd.I64 ah) (hl : Wd.U64 al) (hn : Wd.I64 n) :
    Calls Try.prog 7 #[.agg #[.int .i64 ah, .int .u64 al], .int .i64 n, .bool own] w fun e w' => e = .returned (.bool true) ∧ Below w.heap.size w w' := by
  cases own with
  | false =>
    by_cases h1 : al < 9223372036854775808
    · by_cases h2 : ah = 0
      · subst h2; exact fits_f1 0 al n w hh hl hn h1
      · by_cases h3 : ah = -1
        · subst h3; exact fits_f4 0 al n w (by unfold Wd.I64; omega) hl hn h1
        · exact fits_f5 ah al n w hh hl hn h2 h3
    · by_cases h2 : ah = 0
      · subst h2; exact fits_f3 0 al n w hh hl hn (by omega)
      · by_cases h3 : ah = -1
        · subst h3; exact fits_f2 0 al n w (by unfold Wd.I64; omega) hl hn (by omega)
        · exact fits_f5 ah al n w hh hl hn h2 h3
  | true =>
    have hm : ah.tmod 2 = 0 ∨ ah.tmod 2 = 1 ∨ ah.tmod 2 = -1 := by have := Int.tmod_two_eq ah; omega
    by_cases h1 : IntKind.u64.wrap n < 9223372036854775808
    · rcases hm with h2 | h2 | h2
      · exact fits_t1 ah al n w hh hl hn h2 h1
      · exact fits_t5 ah al n w hh hl hn h2
      · exact fits_t4 ah al n w hh hl hn h2 h1
    · rcases hm with h2 | h2 | h2
      · exact fits_t3 ah al n w hh hl hn h2 (by omega)
      · exact fits_t5 ah al n w hh hl hn h2
      · exact fits_t2 ah al n w hh hl hn h2 (by omega)

end Go.Proofs.Ytimgilkchbcjmaa
