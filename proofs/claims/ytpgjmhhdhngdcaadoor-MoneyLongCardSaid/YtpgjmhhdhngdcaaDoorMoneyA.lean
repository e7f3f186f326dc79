/-
  What money.Add, Neg come to, as the machine runs them.
-/
import Derived.Test.YtpgjmhhdhngdcaaDoorWide
namespace Go.Proofs.YtpgjmhhdhngdcaaDoor
open Go.RowKit
set_option linter.unusedVariables false
set_option linter.unusedSimpArgs false

/-- what fits into 64 bits -/
def Wd.fit (t : Int) : Value := if -9223372036854775808 ≤ t ∧ t ≤ 9223372036854775807 then .tuple #[.int .i64 t, .bool true] else .tuple #[.int .i64 0, .bool false]
theorem Wd.fit_yes {t : Int} (h : Wd.I64 t) : Wd.fit t = .tuple #[.int .i64 t, .bool true] := if_pos h
theorem Wd.fit_no {t : Int} (h : ¬ Wd.I64 t) : Wd.fit t = .tuple #[.int .i64 0, .bool false] := if_neg h
theorem fits_at (t : Int) (ht : -170141183460469231731687303715884105728 ≤ t ∧ t < 170141183460469231731687303715884105728) (w : World) :
    Calls Tryd.prog 42 #[.agg #[.int .i64 (Wd.hi t), .int .u64 (Wd.lo t)]] w fun e w' => e = .returned (Wd.fit t) ∧ Below w.heap.size w w' := by
  by_cases h : Wd.I64 t
  · rw [Wd.fit_yes h]
    have e1 : wrap64 (Wd.lo t) = t := by unfold Wd.I64 at h; unfold Wd.lo wrap64; omega
    have k := fits_yes t w (by rw [e1])
    rwa [e1] at k
  · rw [Wd.fit_no h]
    exact fits_no t w (by unfold Wd.I64 at h; unfold Wd.hi Wd.lo wrap64; omega)

set_option maxHeartbeats 400000 in
theorem mAdd_any (a b : Int) (ha : Wd.I64 a) (hb : Wd.I64 b) (w : World) :
    Calls Tryd.prog 18 #[.int .i64 a, .int .i64 b] w fun e w' => e = .returned (Wd.fit (a + b)) ∧ Below w.heap.size w w' := by
  go_enter Tryd.func18, Tryd.ntmps18
  go_wp2_with fail
  refine (of_any a ha _).mono ?_
  rintro e w1 ⟨rfl, hb1⟩
  go_wp2_with fail
  refine (of_any b hb _).mono ?_
  rintro e w2 ⟨rfl, hb2⟩
  go_wp2_with fail
  refine (add_any a b _).mono ?_
  rintro e w3 ⟨rfl, hb3⟩
  go_wp2_with fail
  refine (fits_at (a + b) (by unfold Wd.I64 at *; omega) _).mono ?_
  rintro e w4 ⟨rfl, hb4⟩
  have hB := below_then (below_then (below_then hb1 hb2) hb3) hb4
  clear hb1 hb2 hb3 hb4
  by_cases h : Wd.I64 (a + b)
  · rw [Wd.fit_yes h]
    go_wp2
    go_ret2
    exact ⟨by rw [Wd.fit_yes h]; rfl, hB⟩
  · rw [Wd.fit_no h]
    go_wp2
    go_ret2
    exact ⟨by rw [Wd.fit_no h]; rfl, hB⟩

set_option maxHeartbeats 400000 in
theorem mNeg_any (a : Int) (ha : Wd.I64 a) (w : World) :
    Calls Tryd.prog 19 #[.int .i64 a] w fun e w' => e = .returned (Wd.fit (-a)) ∧ Below w.heap.size w w' := by
  go_enter Tryd.func19, Tryd.ntmps19
  go_wp2_with fail
  refine (of_any a ha _).mono ?_
  rintro e w1 ⟨rfl, hb1⟩
  go_wp2_with fail
  refine (neg_any a _).mono ?_
  rintro e w3 ⟨rfl, hb3⟩
  go_wp2_with fail
  refine (fits_at (-a) (by unfold Wd.I64 at *; omega) _).mono ?_
  rintro e w4 ⟨rfl, hb4⟩
  have hB := below_then (below_then hb1 hb3) hb4
  clear hb1 hb3 hb4
  by_cases h : Wd.I64 (-a)
  · rw [Wd.fit_yes h]
    go_wp2
    go_ret2
    exact ⟨by rw [Wd.fit_yes h]; rfl, hB⟩
  · rw [Wd.fit_no h]
    go_wp2
    go_ret2
    exact ⟨by rw [Wd.fit_no h]; rfl, hB⟩
end Go.Proofs.YtpgjmhhdhngdcaaDoor
