/-
  The machine's side of the law MoneyAdds: it answers true.
-/
import Derived.Test.YtpgjmhhdhngdcaaDoorAwake2
namespace Go.Proofs.YtpgjmhhdhngdcaaDoor
open Go.RowKit
set_option linter.unusedVariables false
set_option linter.unusedSimpArgs false

set_option maxHeartbeats 2000000 in
theorem moneyAdds_any (a b : Int) (ha : Wd.I64 a) (hb : Wd.I64 b) (w : World) (hG : Glb w) :
    Calls Tryd.prog 5 #[.int .i64 a, .int .i64 b] w fun e w' => e = .returned (.bool true) ∧ Below w.heap.size w w' := by
  have add := Lib.hid (mAdd_any a b ha hb)
  have neg := Lib.hid (mNeg_any a ha)
  have HA := ha
  have HB := hb
  unfold Wd.I64 at ha hb
  go_enter Tryd.func5, Tryd.ntmps5
  go_wp2_with fail
  refine (awake2 _ hG).mono ?_
  rintro _ w1 ⟨rfl, hb1⟩
  go_wp2_with fail
  refine (add.out _).mono ?_
  rintro _ w2 ⟨rfl, hb2⟩
  have hB2 := below_then hb1 hb2
  by_cases hs : Wd.I64 (a + b)
  · rw [Wd.fit_yes hs]
    unfold Wd.I64 at hs
    rcases Int.lt_trichotomy a 0 with h0 | h0 | h0
    · have q1 : ¬ (0 < a) := by omega
      have q2 : ¬ (b < -9223372036854775808 - a) := by omega
      go_wp2_with fail
      refine (neg.out _).mono ?_
      rintro _ w3 ⟨rfl, hb3⟩
      have hB3 := below_then hB2 hb3
      by_cases hn : a = -9223372036854775808
      · rw [Wd.fit_no (by unfold Wd.I64; omega)]
        subst hn
        go_wp2
        go_ret
        exact ⟨rfl, hB3⟩
      · rw [Wd.fit_yes (by unfold Wd.I64; omega)]
        have hn2 : (a != -9223372036854775808) = true := by simp; omega
        go_wp2
        go_ret
        exact ⟨rfl, hB3⟩
    · subst h0
      go_wp2_with fail
      refine (neg.out _).mono ?_
      rintro _ w3 ⟨rfl, hb3⟩
      have hB3 := below_then hB2 hb3
      rw [Wd.fit_yes (by unfold Wd.I64; omega)]
      go_wp2
      go_ret
      exact ⟨rfl, hB3⟩
    · have q2 : ¬ (9223372036854775807 - a < b) := by omega
      have hn2 : (a != -9223372036854775808) = true := by simp; omega
      go_wp2_with fail
      refine (neg.out _).mono ?_
      rintro _ w3 ⟨rfl, hb3⟩
      have hB3 := below_then hB2 hb3
      rw [Wd.fit_yes (by unfold Wd.I64; omega)]
      go_wp2
      go_ret
      exact ⟨rfl, hB3⟩
  · rw [Wd.fit_no hs]
    unfold Wd.I64 at hs
    rcases Int.lt_trichotomy a 0 with h0 | h0 | h0
    · have q1 : ¬ (0 < a) := by omega
      have q2 : b < -9223372036854775808 - a := by omega
      go_wp2_with fail
      refine (neg.out _).mono ?_
      rintro _ w3 ⟨rfl, hb3⟩
      have hB3 := below_then hB2 hb3
      by_cases hn : a = -9223372036854775808
      · rw [Wd.fit_no (by unfold Wd.I64; omega)]
        subst hn
        go_wp2
        go_ret
        exact ⟨rfl, hB3⟩
      · rw [Wd.fit_yes (by unfold Wd.I64; omega)]
        have hn2 : (a != -9223372036854775808) = true := by simp; omega
        go_wp2
        go_ret
        exact ⟨rfl, hB3⟩
    · omega
    · have q2 : 9223372036854775807 - a < b := by omega
      have hn2 : (a != -9223372036854775808) = true := by simp; omega
      go_wp2_with fail
      refine (neg.out _).mono ?_
      rintro _ w3 ⟨rfl, hb3⟩
      have hB3 := below_then hB2 hb3
      rw [Wd.fit_yes (by unfold Wd.I64; omega)]
      go_wp2
      go_ret
      exact ⟨rfl, hB3⟩
end Go.Proofs.YtpgjmhhdhngdcaaDoor
