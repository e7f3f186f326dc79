/-
  The machine's side of the law WideAdds: it answers true.
-/
import Derived.Test.YtimgilkchbcjmaaLaw1b
import Derived.Test.YtimgilkchbcjmaaRef01
namespace Go.Proofs.Ytimgilkchbcjmaa
open Go.RowKit
set_option linter.unusedVariables false
set_option linter.unusedSimpArgs false

theorem u128_halves (a : Int) : u128 (Wd.num (Wd.hi a) (Wd.lo a)) = u128 a := by unfold u128 Wd.num Wd.hi Wd.lo wrap64; omega
theorem bits_num (a : Int) (w : World) :
    Calls Try.prog 12 #[.agg #[.int .i64 (Wd.hi a), .int .u64 (Wd.lo a)]] w fun e w' => e = .returned (.agg (bv (u128 a))) ∧ Below w.heap.size w w' := by
  have h := lawBits_any (Wd.hi a) (Wd.lo a) (Wd.hi_bd a) (Wd.lo_bd a) w
  rwa [u128_halves] at h
theorem is_at (n : Int) (m : Nat) (h : m % 2 ^ 128 = u128 n) (w : World) :
    Calls Try.prog 14 #[.agg #[.int .i64 (Wd.hi n), .int .u64 (Wd.lo n)], .agg (bv m)] w fun e w' => e = .returned (.bool true) ∧ Below w.heap.size w w' := by
  have hm := u128_lt n
  have k := lawIs_any (u128 n) hm w
  rw [← h, bv_mod, h] at k
  have e1 : Wd.hi (u128 n : Int) = Wd.hi n := by unfold u128 Wd.hi wrap64; omega
  have e2 : Wd.lo (u128 n : Int) = Wd.lo n := by unfold u128 Wd.lo; omega
  rwa [e1, e2] at k

set_option maxHeartbeats 8000000 in
theorem wideAdds_num (a b : Int) (w : World) :
    Calls Try.prog 5 #[.agg #[.int .i64 (Wd.hi a), .int .u64 (Wd.lo a)], .agg #[.int .i64 (Wd.hi b), .int .u64 (Wd.lo b)]] w fun e w' => e = .returned (.bool true) ∧ Below w.heap.size w w' := by
  have h1 : (u128 a + u128 b) % 2 ^ 128 = u128 (a + b) := by unfold u128; omega
  have h2 : (2 ^ 128 - u128 a) % 2 ^ 128 = u128 (-a) := by unfold u128; omega
  have h3 : (u128 a + (2 ^ 128 - u128 b)) % 2 ^ 128 = u128 (a - b) := by unfold u128; omega
  have bitsA : Hid (∀ w : World, Calls Try.prog 12 #[.agg #[.int .i64 (Wd.hi a), .int .u64 (Wd.lo a)]] w fun e w' => e = .returned (.agg (bv (u128 a))) ∧ Below w.heap.size w w') := Lib.hid (bits_num a)
  have bitsB : Hid (∀ w : World, Calls Try.prog 12 #[.agg #[.int .i64 (Wd.hi b), .int .u64 (Wd.lo b)]] w fun e w' => e = .returned (.agg (bv (u128 b))) ∧ Below w.heap.size w w') := Lib.hid (bits_num b)
  have negA : Hid (∀ w : World, Calls Try.prog 13 #[.agg (bv (u128 a))] w fun e w' => e = .returned (.agg (bv (2 ^ 128 - u128 a))) ∧ Below w.heap.size w w') := Lib.hid (refNeg_any (u128 a) (u128_lt a))
  have negB : Hid (∀ w : World, Calls Try.prog 13 #[.agg (bv (u128 b))] w fun e w' => e = .returned (.agg (bv (2 ^ 128 - u128 b))) ∧ Below w.heap.size w w') := Lib.hid (refNeg_any (u128 b) (u128_lt b))
  have is1 : Hid (∀ w : World, Calls Try.prog 14 #[.agg #[.int .i64 (Wd.hi (a + b)), .int .u64 (Wd.lo (a + b))], .agg (bv (u128 a + u128 b))] w fun e w' => e = .returned (.bool true) ∧ Below w.heap.size w w') := Lib.hid (is_at (a + b) (u128 a + u128 b) h1)
  have is2 : Hid (∀ w : World, Calls Try.prog 14 #[.agg #[.int .i64 (Wd.hi (-a)), .int .u64 (Wd.lo (-a))], .agg (bv (2 ^ 128 - u128 a))] w fun e w' => e = .returned (.bool true) ∧ Below w.heap.size w w') := Lib.hid (is_at (-a) (2 ^ 128 - u128 a) h2)
  have is3 : Hid (∀ w : World, Calls Try.prog 14 #[.agg #[.int .i64 (Wd.hi (a - b)), .int .u64 (Wd.lo (a - b))], .agg (bv (u128 a + (2 ^ 128 - u128 b)))] w fun e w' => e = .returned (.bool true) ∧ Below w.heap.size w w') := Lib.hid (is_at (a - b) (u128 a + (2 ^ 128 - u128 b)) h3)
  clear h1 h2 h3
  generalize 2 ^ 128 - u128 a = na at *
  generalize 2 ^ 128 - u128 b = nb at *
  generalize u128 a = ua at *
  generalize u128 b = ub at *
  go_enter Try.func5, Try.ntmps5
  go_wp2_with fail
  refine (awake1 _).mono ?_
  rintro e w1 ⟨rfl, hb1⟩
  have R0 := ((Row.new w #[.int .i64 (Wd.hi a), .int .u64 (Wd.lo a)] 28).alloc (.cells #[.int .i64 (Wd.hi b), .int .u64 (Wd.lo b)] 28)).below hb1
  have R1 := (Row.new' (w.alloc (.cells #[.int .i64 (Wd.hi a), .int .u64 (Wd.lo a)] 28)) #[.int .i64 (Wd.hi b), .int .u64 (Wd.lo b)] 28 (g := w.heap.size + 1) (by simp)).below hb1
  have hB := below_then (below_alloc (below_alloc (Below.refl w.heap.size w) _) _) hb1
  have c0 : w1.cell? ⟨w.heap.size, 0, none⟩ = some (.int .i64 (Wd.hi a)) := R0.cell 0
  have c1 : w1.cell? ⟨w.heap.size, 1, none⟩ = some (.int .u64 (Wd.lo a)) := R0.cell 1
  have c2 : w1.cell? ⟨w.heap.size + 1, 0, none⟩ = some (.int .i64 (Wd.hi b)) := R1.cell 0
  have c3 : w1.cell? ⟨w.heap.size + 1, 1, none⟩ = some (.int .u64 (Wd.lo b)) := R1.cell 1
  clear hb1 R0 R1
  go_wp2_with fail
  go_region_held3 (fun w' => Below w.heap.size w w' ∧ w'.cell? ⟨w.heap.size, 0, none⟩ = some (.int .i64 (Wd.hi a)) ∧ w'.cell? ⟨w.heap.size, 1, none⟩ = some (.int .u64 (Wd.lo a)) ∧ w'.cell? ⟨w.heap.size + 1, 0, none⟩ = some (.int .i64 (Wd.hi b)) ∧ w'.cell? ⟨w.heap.size + 1, 1, none⟩ = some (.int .u64 (Wd.lo b))) (refine ⟨?_, ?_, ?_, ?_, ?_⟩ <;> first | assumption | exact hB.drew | simp [go_sem, *]) (first | (go_at_call 20; rename_i hHeld _ _; ((with_reducible refine (add_any a b _).mono ?_)); rintro e wx ⟨rfl, hb⟩; have HB := below_then hHeld.1 hb; have HC1 := cell_then hHeld.2.1 hb; have HC2 := cell_then hHeld.2.2.1 hb; have HC3 := cell_then hHeld.2.2.2.1 hb; have HC4 := cell_then hHeld.2.2.2.2 hb; clear hb hHeld) | (go_at_call 12; rename_i hHeld _ _; ((with_reducible refine (bitsA.out _).mono ?_)); rintro e wx ⟨rfl, hb⟩; have HB := below_then hHeld.1 hb; have HC1 := cell_then hHeld.2.1 hb; have HC2 := cell_then hHeld.2.2.1 hb; have HC3 := cell_then hHeld.2.2.2.1 hb; have HC4 := cell_then hHeld.2.2.2.2 hb; clear hb hHeld) | (go_at_call 12; rename_i hHeld _ _; ((with_reducible refine (bitsB.out _).mono ?_)); rintro e wx ⟨rfl, hb⟩; have HB := below_then hHeld.1 hb; have HC1 := cell_then hHeld.2.1 hb; have HC2 := cell_then hHeld.2.2.1 hb; have HC3 := cell_then hHeld.2.2.2.1 hb; have HC4 := cell_then hHeld.2.2.2.2 hb; clear hb hHeld) | (go_at_call 22; rename_i hHeld _ _; ((with_reducible refine (refAdd_any ua ub _).mono ?_)); rintro e wx ⟨rfl, hb⟩; have HB := below_then hHeld.1 hb; have HC1 := cell_then hHeld.2.1 hb; have HC2 := cell_then hHeld.2.2.1 hb; have HC3 := cell_then hHeld.2.2.2.1 hb; have HC4 := cell_then hHeld.2.2.2.2 hb; clear hb hHeld) | (go_at_call 22; rename_i hHeld _ _; ((with_reducible refine (refAdd_any ua nb _).mono ?_)); rintro e wx ⟨rfl, hb⟩; have HB := below_then hHeld.1 hb; have HC1 := cell_then hHeld.2.1 hb; have HC2 := cell_then hHeld.2.2.1 hb; have HC3 := cell_then hHeld.2.2.2.1 hb; have HC4 := cell_then hHeld.2.2.2.2 hb; clear hb hHeld) | (go_at_call 13; rename_i hHeld _ _; ((with_reducible refine (negA.out _).mono ?_)); rintro e wx ⟨rfl, hb⟩; have HB := below_then hHeld.1 hb; have HC1 := cell_then hHeld.2.1 hb; have HC2 := cell_then hHeld.2.2.1 hb; have HC3 := cell_then hHeld.2.2.2.1 hb; have HC4 := cell_then hHeld.2.2.2.2 hb; clear hb hHeld) | (go_at_call 13; rename_i hHeld _ _; ((with_reducible refine (negB.out _).mono ?_)); rintro e wx ⟨rfl, hb⟩; have HB := below_then hHeld.1 hb; have HC1 := cell_then hHeld.2.1 hb; have HC2 := cell_then hHeld.2.2.1 hb; have HC3 := cell_then hHeld.2.2.2.1 hb; have HC4 := cell_then hHeld.2.2.2.2 hb; clear hb hHeld) | (go_at_call 14; rename_i hHeld _ _; ((with_reducible refine (is1.out _).mono ?_)); rintro e wx ⟨rfl, hb⟩; have HB := below_then hHeld.1 hb; have HC1 := cell_then hHeld.2.1 hb; have HC2 := cell_then hHeld.2.2.1 hb; have HC3 := cell_then hHeld.2.2.2.1 hb; have HC4 := cell_then hHeld.2.2.2.2 hb; clear hb hHeld) | (go_at_call 14; rename_i hHeld _ _; ((with_reducible refine (is2.out _).mono ?_)); rintro e wx ⟨rfl, hb⟩; have HB := below_then hHeld.1 hb; have HC1 := cell_then hHeld.2.1 hb; have HC2 := cell_then hHeld.2.2.1 hb; have HC3 := cell_then hHeld.2.2.2.1 hb; have HC4 := cell_then hHeld.2.2.2.2 hb; clear hb hHeld) | (go_at_call 14; rename_i hHeld _ _; ((with_reducible refine (is3.out _).mono ?_)); rintro e wx ⟨rfl, hb⟩; have HB := below_then hHeld.1 hb; have HC1 := cell_then hHeld.2.1 hb; have HC2 := cell_then hHeld.2.2.1 hb; have HC3 := cell_then hHeld.2.2.2.1 hb; have HC4 := cell_then hHeld.2.2.2.2 hb; clear hb hHeld) | (go_at_call 21; rename_i hHeld _ _; ((with_reducible refine (neg_any a _).mono ?_)); rintro e wx ⟨rfl, hb⟩; have HB := below_then hHeld.1 hb; have HC1 := cell_then hHeld.2.1 hb; have HC2 := cell_then hHeld.2.2.1 hb; have HC3 := cell_then hHeld.2.2.2.1 hb; have HC4 := cell_then hHeld.2.2.2.2 hb; clear hb hHeld) | (go_at_call 23; rename_i hHeld _ _; ((with_reducible refine (sub_any a b _).mono ?_)); rintro e wx ⟨rfl, hb⟩; have HB := below_then hHeld.1 hb; have HC1 := cell_then hHeld.2.1 hb; have HC2 := cell_then hHeld.2.2.1 hb; have HC3 := cell_then hHeld.2.2.2.1 hb; have HC4 := cell_then hHeld.2.2.2.2 hb; clear hb hHeld))
  go_wp2
  go_ret
  exact ⟨rfl, by assumption⟩
theorem wideAdds_any (ah al bh bl : Int) (w : World) (h1 : Wd.I64 ah) (h2 : Wd.U64 al) (h3 : Wd.I64 bh) (h4 : Wd.U64 bl) :
    Calls Try.prog 5 #[.agg #[.int .i64 ah, .int .u64 al], .agg #[.int .i64 bh, .int .u64 bl]] w fun e w' => e = .returned (.bool true) ∧ Below w.heap.size w w' := by
  have h := wideAdds_num (Wd.num ah al) (Wd.num bh bl) w
  rwa [Wd.hi_num _ _ h1 h2, Wd.lo_num _ _ h2, Wd.hi_num _ _ h3 h4, Wd.lo_num _ _ h4] at h
end Go.Proofs.Ytimgilkchbcjmaa
