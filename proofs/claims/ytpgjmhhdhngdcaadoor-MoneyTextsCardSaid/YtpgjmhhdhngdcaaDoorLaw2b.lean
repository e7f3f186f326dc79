/-
  The machine's side of the laws MoneyTexts and MoneyAdds: each answers true.
-/
import Derived.Test.YtpgjmhhdhngdcaaDoorAwake2
namespace Go.Proofs.YtpgjmhhdhngdcaaDoor
open Go.RowKit
set_option linter.unusedVariables false
set_option linter.unusedSimpArgs false

set_option maxHeartbeats 1000000 in
theorem moneyTexts_p (m : Nat) (h : m < 9223372036854775808) (w : World) (hG : Glb w) :
    Calls Tryd.prog 3 #[.int .i64 (m : Int)] w fun e w' => e = .returned (.bool true) ∧ Below w.heap.size w w' := by
  have hI : Wd.I64 (m : Int) := by unfold Wd.I64; omega
  have ht : Mn.text (m : Int) = Lib.decDigits (m / 100) ++ (46 :: Mn.two (m % 100)) := by unfold Mn.text Mn.sign; rw [if_neg (by omega), Int.natAbs_natCast]; rfl
  have h2 : Mn.two (m % 100) = Lib.decDigits (m / 10 % 10) ++ Lib.decDigits (m % 10) := by
    rw [Lib.decDigits_one (by omega), Lib.decDigits_one (by omega)]
    unfold Mn.two
    rw [show m % 100 / 10 = m / 10 % 10 by omega, show m % 100 % 10 = m % 10 by omega]
    rfl
  rw [h2] at ht
  clear h2
  have hl1 : (Lib.decDigits (m / 100)).length ≤ 20 := dec_len _ (by omega)
  have hl2 : (Lib.decDigits (m / 10 % 10)).length ≤ 20 := dec_len _ (by omega)
  have hl3 : (Lib.decDigits (m % 10)).length ≤ 20 := dec_len _ (by omega)
  have tx := Lib.hid (text_any (m : Int) hI)
  have pa := Lib.hid (parse_any ⟨(Mn.text (m : Int)).toArray⟩ (by show (Mn.text (m : Int)).toArray.size < _; rw [ht]; simp; omega))
  have hpt : Mn.parse (Mn.text (m : Int)) = some (m : Int) := Mn.parse_text _ hI
  rw [show (ByteArray.mk (Mn.text (m : Int)).toArray).data.toList = Mn.text (m : Int) from rfl, hpt] at pa
  have f1 := Lib.hid (formatUint_any (m / 100) (by omega))
  have f2 := Lib.hid (formatUint_any (m / 10 % 10) (by omega))
  have f3 := Lib.hid (formatUint_any (m % 10) (by omega))
  generalize Lib.decDigits (m / 100) = D1 at *
  generalize Lib.decDigits (m / 10 % 10) = D2 at *
  generalize Lib.decDigits (m % 10) = D3 at *
  clear hpt
  have HT := Lib.hid ht
  clear ht
  generalize Mn.text (m : Int) = tv at *
  go_enter Tryd.func3, Tryd.ntmps3
  go_wp2_with fail
  refine (awake2 _ hG).mono ?_
  rintro _ w1 ⟨rfl, hb1⟩
  go_wp2_with fail
  rw [show ((m : Int) / 100) = ((m / 100 : Nat) : Int) by omega]
  refine (f1.out _ (hG.below hb1)).mono ?_
  rintro _ w2 ⟨rfl, hb2⟩
  have hB2 := below_then hb1 hb2
  go_wp2_with fail
  rw [show ((m : Int) / 10 % 10) = ((m / 10 % 10 : Nat) : Int) by omega]
  refine (f2.out _ (hG.below hB2)).mono ?_
  rintro _ w3 ⟨rfl, hb3⟩
  have hB3 := below_then hB2 hb3
  go_wp2_with fail
  rw [show ((m : Int) % 10) = ((m % 10 : Nat) : Int) by omega]
  refine (f3.out _ (hG.below hB3)).mono ?_
  rintro _ w4 ⟨rfl, hb4⟩
  have hB4 := below_then hB3 hb4
  go_wp2_with fail
  refine (tx.out _ (hG.below hB4)).mono ?_
  rintro _ w5 ⟨rfl, hb5⟩
  have hB5 := below_then hB4 hb5
  go_wp2_with fail
  refine (pa.out _ (hG.below hB5)).mono ?_
  rintro _ w6 ⟨rfl, hb6⟩
  have hB6 := below_then hB5 hb6
  unfold Mn.end_
  go_wp2_with fail
  refine (tx.out _ (hG.below hB6)).mono ?_
  rintro _ w7 ⟨rfl, hb7⟩
  have hB7 := below_then hB6 hb7
  have hE : (tv == ((⟨#[]⟩ : ByteArray) ++ ((⟨D1.toArray⟩ : ByteArray) ++ (⟨#[46]⟩ : ByteArray) ++ (⟨D2.toArray⟩ : ByteArray) ++ (⟨D3.toArray⟩ : ByteArray))).toList) = true := by rw [HT.out, toList_data]; simp
  go_wp2
  go_ret
  exact ⟨rfl, hB7⟩

set_option maxHeartbeats 1000000 in
theorem moneyTexts_n (m : Nat) (h : m ≤ 9223372036854775808) (h0 : 0 < m) (w : World) (hG : Glb w) :
    Calls Tryd.prog 3 #[.int .i64 (-(m : Int))] w fun e w' => e = .returned (.bool true) ∧ Below w.heap.size w w' := by
  have hI : Wd.I64 (-(m : Int)) := by unfold Wd.I64; omega
  have ht : Mn.text (-(m : Int)) = 45 :: (Lib.decDigits (m / 100) ++ (46 :: Mn.two (m % 100))) := by unfold Mn.text Mn.sign; rw [if_pos (by omega), Int.natAbs_neg, Int.natAbs_natCast]; rfl
  have h2 : Mn.two (m % 100) = Lib.decDigits (m / 10 % 10) ++ Lib.decDigits (m % 10) := by
    rw [Lib.decDigits_one (by omega), Lib.decDigits_one (by omega)]
    unfold Mn.two
    rw [show m % 100 / 10 = m / 10 % 10 by omega, show m % 100 % 10 = m % 10 by omega]
    rfl
  rw [h2] at ht
  clear h2
  have hl1 : (Lib.decDigits (m / 100)).length ≤ 20 := dec_len _ (by omega)
  have hl2 : (Lib.decDigits (m / 10 % 10)).length ≤ 20 := dec_len _ (by omega)
  have hl3 : (Lib.decDigits (m % 10)).length ≤ 20 := dec_len _ (by omega)
  have tx := Lib.hid (text_any (-(m : Int)) hI)
  have pa := Lib.hid (parse_any ⟨(Mn.text (-(m : Int))).toArray⟩ (by show (Mn.text (-(m : Int))).toArray.size < _; rw [ht]; simp; omega))
  have hpt : Mn.parse (Mn.text (-(m : Int))) = some (-(m : Int)) := Mn.parse_text _ hI
  rw [show (ByteArray.mk (Mn.text (-(m : Int))).toArray).data.toList = Mn.text (-(m : Int)) from rfl, hpt] at pa
  have f1 := Lib.hid (formatUint_any (m / 100) (by omega))
  have f2 := Lib.hid (formatUint_any (m / 10 % 10) (by omega))
  have f3 := Lib.hid (formatUint_any (m % 10) (by omega))
  generalize Lib.decDigits (m / 100) = D1 at *
  generalize Lib.decDigits (m / 10 % 10) = D2 at *
  generalize Lib.decDigits (m % 10) = D3 at *
  clear hpt
  have HT := Lib.hid ht
  clear ht
  generalize Mn.text (-(m : Int)) = tv at *
  have e1 : IntKind.u64.wrap (-IntKind.u64.wrap (-(m : Int))) = (m : Int) := by rw [IntKind.wrap_u64, IntKind.wrap_u64]; omega
  go_enter Tryd.func3, Tryd.ntmps3
  go_wp2_with fail
  refine (awake2 _ hG).mono ?_
  rintro _ w1 ⟨rfl, hb1⟩
  go_wp2_with fail
  rw [show ((m : Int) / 100) = ((m / 100 : Nat) : Int) by omega]
  refine (f1.out _ (hG.below hb1)).mono ?_
  rintro _ w2 ⟨rfl, hb2⟩
  have hB2 := below_then hb1 hb2
  go_wp2_with fail
  rw [show ((m : Int) / 10 % 10) = ((m / 10 % 10 : Nat) : Int) by omega]
  refine (f2.out _ (hG.below hB2)).mono ?_
  rintro _ w3 ⟨rfl, hb3⟩
  have hB3 := below_then hB2 hb3
  go_wp2_with fail
  rw [show ((m : Int) % 10) = ((m % 10 : Nat) : Int) by omega]
  refine (f3.out _ (hG.below hB3)).mono ?_
  rintro _ w4 ⟨rfl, hb4⟩
  have hB4 := below_then hB3 hb4
  go_wp2_with fail
  refine (tx.out _ (hG.below hB4)).mono ?_
  rintro _ w5 ⟨rfl, hb5⟩
  have hB5 := below_then hB4 hb5
  go_wp2_with fail
  refine (pa.out _ (hG.below hB5)).mono ?_
  rintro _ w6 ⟨rfl, hb6⟩
  have hB6 := below_then hB5 hb6
  unfold Mn.end_
  go_wp2_with fail
  refine (tx.out _ (hG.below hB6)).mono ?_
  rintro _ w7 ⟨rfl, hb7⟩
  have hB7 := below_then hB6 hb7
  have hE : (tv == ((⟨#[45]⟩ : ByteArray) ++ ((⟨D1.toArray⟩ : ByteArray) ++ (⟨#[46]⟩ : ByteArray) ++ (⟨D2.toArray⟩ : ByteArray) ++ (⟨D3.toArray⟩ : ByteArray))).toList) = true := by rw [HT.out, toList_data]; simp
  go_wp2
  go_ret
  exact ⟨rfl, hB7⟩

theorem moneyTexts_any (n : Int) (h : Wd.I64 n) (w : World) (hG : Glb w) :
    Calls Tryd.prog 3 #[.int .i64 n] w fun e w' => e = .returned (.bool true) ∧ Below w.heap.size w w' := by
  unfold Wd.I64 at h
  by_cases h0 : n < 0
  · have := moneyTexts_n n.natAbs (by omega) (by omega) w hG
    rwa [show -(n.natAbs : Int) = n by omega] at this
  · have := moneyTexts_p n.natAbs (by omega) w hG
    rwa [show (n.natAbs : Int) = n by omega] at this
end Go.Proofs.YtpgjmhhdhngdcaaDoor
