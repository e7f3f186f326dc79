/-
  What money.Text and Parse come to, as the machine runs them.
-/
import Derived.Test.YtahagfdjpldblaaGreatDoorMoneyA
import Derived.Test.YtahagfdjpldblaaGreatDoorMoney1
import Derived.Test.YtahagfdjpldblaaGreatDoorStr
namespace Go.Proofs.YtahagfdjpldblaaGreatDoor
open Go.RowKit
set_option linter.unusedVariables false
set_option linter.unusedSimpArgs false

theorem size_nat (n : Int) (h : Wd.I64 n) (w : World) :
    Calls Tryz.prog 52 #[.int .i64 n] w fun e w' => e = .returned (.int .u64 (n.natAbs : Int)) ∧ w = w' := by
  have k := size_any n w h
  have e : Wd.abs n = (n.natAbs : Int) := by unfold Wd.abs; split <;> omega
  rwa [e] at k

theorem dec_len (u : Nat) (h : u < 18446744073709551616) : (Lib.decDigits u).length ≤ 20 := by
  rw [Lib.decDigits_length]
  by_cases h1 : 1 ≤ u
  · have := Lib.numDigits_eq u h1 h; split at this <;> omega
  · rw [Lib.nDigits_small (by omega)]; omega
theorem ret_str {a b : ByteArray} (h : a.data.toList = b.data.toList) : Ending.returned (.string a) = .returned (.string b) := by
  have : a = b := by
    cases a; cases b
    simp at h
    simp [h]
  rw [this]

set_option maxHeartbeats 1000000 in
theorem text_n1 (n : Int) (h : Wd.I64 n) (hn : n < 0) (hc : n.natAbs % 100 < 10) (w : World) (hG : Glb w) :
    Calls Tryz.prog 57 #[.int .i64 n] w fun e w' => e = .returned (.string ⟨(Mn.text n).toArray⟩) ∧ Below w.heap.size w w' := by
  have hm : n.natAbs ≤ 9223372036854775808 := by unfold Wd.I64 at h; omega
  have ht : Mn.text n = [45] ++ (Lib.decDigits (n.natAbs / 100) ++ (46 :: Mn.two (n.natAbs % 100))) := by unfold Mn.text Mn.sign; rw [if_pos hn]
  have hlen : (Lib.decDigits (n.natAbs / 100)).length ≤ 20 := dec_len _ (by omega)
  have sz := Lib.hid (size_nat n h)
  have hn' : n < 0 := by omega
  clear h hn
  generalize n.natAbs = m at *
  have hd := Lib.decDigits_one hc
  have h2 : Mn.two (m % 100) = [48, UInt8.ofNat (48 + m % 100)] := by unfold Mn.two; rw [show m % 100 / 10 = 0 by omega, show m % 100 % 10 = m % 100 by omega]; rfl
  have f1 := Lib.hid (fun w hG => hd ▸ formatUint_any (m % 100) (by omega) w hG)
  rw [h2] at ht
  generalize UInt8.ofNat (48 + m % 100) = x at *
  have f2 := Lib.hid (formatUint_any (m / 100) (by omega))
  clear hd h2
  generalize Lib.decDigits (m / 100) = D at *
  have HT := Lib.hid ht
  clear ht
  go_enter Tryz.func57, Tryz.ntmps57
  go_wp2_with fail
  refine (sz.out _).mono ?_
  rintro _ w' ⟨rfl, rfl⟩
  go_wp2_with fail
  rw [show ((m : Int) % 100) = ((m % 100 : Nat) : Int) by omega]
  generalize m % 100 = c at *
  refine (f1.out _ hG).mono ?_
  rintro _ w1 ⟨rfl, hb1⟩
  go_wp2_with fail
  rw [show ((m : Int) / 100) = ((m / 100 : Nat) : Int) by omega]
  refine (f2.out _ (hG.below hb1)).mono ?_
  rintro _ w2 ⟨rfl, hb2⟩
  go_wp2
  go_ret
  refine ⟨?_, below_then hb1 hb2⟩
  rw [HT.out]
  refine ret_str ?_
  simp

set_option maxHeartbeats 1000000 in
theorem text_n2 (n : Int) (h : Wd.I64 n) (hn : n < 0) (hc : ¬ n.natAbs % 100 < 10) (w : World) (hG : Glb w) :
    Calls Tryz.prog 57 #[.int .i64 n] w fun e w' => e = .returned (.string ⟨(Mn.text n).toArray⟩) ∧ Below w.heap.size w w' := by
  have hm : n.natAbs ≤ 9223372036854775808 := by unfold Wd.I64 at h; omega
  have ht : Mn.text n = [45] ++ (Lib.decDigits (n.natAbs / 100) ++ (46 :: Mn.two (n.natAbs % 100))) := by unfold Mn.text Mn.sign; rw [if_pos hn]
  have hlen : (Lib.decDigits (n.natAbs / 100)).length ≤ 20 := dec_len _ (by omega)
  have sz := Lib.hid (size_nat n h)
  have hn' : n < 0 := by omega
  clear h hn
  generalize n.natAbs = m at *
  have hd := Lib.decDigits_two hc (show m % 100 < 100 by omega)
  have h2 : Mn.two (m % 100) = [UInt8.ofNat (48 + m % 100 / 10), UInt8.ofNat (48 + m % 100 % 10)] := rfl
  have f1 := Lib.hid (fun w hG => hd ▸ formatUint_any (m % 100) (by omega) w hG)
  rw [h2] at ht
  generalize UInt8.ofNat (48 + m % 100 / 10) = x at *
  generalize UInt8.ofNat (48 + m % 100 % 10) = y at *
  have f2 := Lib.hid (formatUint_any (m / 100) (by omega))
  clear hd h2
  generalize Lib.decDigits (m / 100) = D at *
  have HT := Lib.hid ht
  clear ht
  go_enter Tryz.func57, Tryz.ntmps57
  go_wp2_with fail
  refine (sz.out _).mono ?_
  rintro _ w' ⟨rfl, rfl⟩
  go_wp2_with fail
  rw [show ((m : Int) % 100) = ((m % 100 : Nat) : Int) by omega]
  generalize m % 100 = c at *
  refine (f1.out _ hG).mono ?_
  rintro _ w1 ⟨rfl, hb1⟩
  go_wp2_with fail
  rw [show ((m : Int) / 100) = ((m / 100 : Nat) : Int) by omega]
  refine (f2.out _ (hG.below hb1)).mono ?_
  rintro _ w2 ⟨rfl, hb2⟩
  go_wp2
  go_ret
  refine ⟨?_, below_then hb1 hb2⟩
  rw [HT.out]
  refine ret_str ?_
  simp

set_option maxHeartbeats 1000000 in
theorem text_p1 (n : Int) (h : Wd.I64 n) (hn : ¬ n < 0) (hc : n.natAbs % 100 < 10) (w : World) (hG : Glb w) :
    Calls Tryz.prog 57 #[.int .i64 n] w fun e w' => e = .returned (.string ⟨(Mn.text n).toArray⟩) ∧ Below w.heap.size w w' := by
  have hm : n.natAbs ≤ 9223372036854775808 := by unfold Wd.I64 at h; omega
  have ht : Mn.text n = [] ++ (Lib.decDigits (n.natAbs / 100) ++ (46 :: Mn.two (n.natAbs % 100))) := by unfold Mn.text Mn.sign; rw [if_neg hn]
  have hlen : (Lib.decDigits (n.natAbs / 100)).length ≤ 20 := dec_len _ (by omega)
  have sz := Lib.hid (size_nat n h)
  have hn' : 0 ≤ n := by omega
  clear h hn
  generalize n.natAbs = m at *
  have hd := Lib.decDigits_one hc
  have h2 : Mn.two (m % 100) = [48, UInt8.ofNat (48 + m % 100)] := by unfold Mn.two; rw [show m % 100 / 10 = 0 by omega, show m % 100 % 10 = m % 100 by omega]; rfl
  have f1 := Lib.hid (fun w hG => hd ▸ formatUint_any (m % 100) (by omega) w hG)
  rw [h2] at ht
  generalize UInt8.ofNat (48 + m % 100) = x at *
  have f2 := Lib.hid (formatUint_any (m / 100) (by omega))
  clear hd h2
  generalize Lib.decDigits (m / 100) = D at *
  have HT := Lib.hid ht
  clear ht
  go_enter Tryz.func57, Tryz.ntmps57
  go_wp2_with fail
  refine (sz.out _).mono ?_
  rintro _ w' ⟨rfl, rfl⟩
  go_wp2_with fail
  rw [show ((m : Int) % 100) = ((m % 100 : Nat) : Int) by omega]
  generalize m % 100 = c at *
  refine (f1.out _ hG).mono ?_
  rintro _ w1 ⟨rfl, hb1⟩
  go_wp2_with fail
  rw [show ((m : Int) / 100) = ((m / 100 : Nat) : Int) by omega]
  refine (f2.out _ (hG.below hb1)).mono ?_
  rintro _ w2 ⟨rfl, hb2⟩
  go_wp2
  go_ret
  refine ⟨?_, below_then hb1 hb2⟩
  rw [HT.out]
  refine ret_str ?_
  simp

set_option maxHeartbeats 1000000 in
theorem text_p2 (n : Int) (h : Wd.I64 n) (hn : ¬ n < 0) (hc : ¬ n.natAbs % 100 < 10) (w : World) (hG : Glb w) :
    Calls Tryz.prog 57 #[.int .i64 n] w fun e w' => e = .returned (.string ⟨(Mn.text n).toArray⟩) ∧ Below w.heap.size w w' := by
  have hm : n.natAbs ≤ 9223372036854775808 := by unfold Wd.I64 at h; omega
  have ht : Mn.text n = [] ++ (Lib.decDigits (n.natAbs / 100) ++ (46 :: Mn.two (n.natAbs % 100))) := by unfold Mn.text Mn.sign; rw [if_neg hn]
  have hlen : (Lib.decDigits (n.natAbs / 100)).length ≤ 20 := dec_len _ (by omega)
  have sz := Lib.hid (size_nat n h)
  have hn' : 0 ≤ n := by omega
  clear h hn
  generalize n.natAbs = m at *
  have hd := Lib.decDigits_two hc (show m % 100 < 100 by omega)
  have h2 : Mn.two (m % 100) = [UInt8.ofNat (48 + m % 100 / 10), UInt8.ofNat (48 + m % 100 % 10)] := rfl
  have f1 := Lib.hid (fun w hG => hd ▸ formatUint_any (m % 100) (by omega) w hG)
  rw [h2] at ht
  generalize UInt8.ofNat (48 + m % 100 / 10) = x at *
  generalize UInt8.ofNat (48 + m % 100 % 10) = y at *
  have f2 := Lib.hid (formatUint_any (m / 100) (by omega))
  clear hd h2
  generalize Lib.decDigits (m / 100) = D at *
  have HT := Lib.hid ht
  clear ht
  go_enter Tryz.func57, Tryz.ntmps57
  go_wp2_with fail
  refine (sz.out _).mono ?_
  rintro _ w' ⟨rfl, rfl⟩
  go_wp2_with fail
  rw [show ((m : Int) % 100) = ((m % 100 : Nat) : Int) by omega]
  generalize m % 100 = c at *
  refine (f1.out _ hG).mono ?_
  rintro _ w1 ⟨rfl, hb1⟩
  go_wp2_with fail
  rw [show ((m : Int) / 100) = ((m / 100 : Nat) : Int) by omega]
  refine (f2.out _ (hG.below hb1)).mono ?_
  rintro _ w2 ⟨rfl, hb2⟩
  go_wp2
  go_ret
  refine ⟨?_, below_then hb1 hb2⟩
  rw [HT.out]
  refine ret_str ?_
  simp

theorem text_any (n : Int) (h : Wd.I64 n) (w : World) (hG : Glb w) :
    Calls Tryz.prog 57 #[.int .i64 n] w fun e w' => e = .returned (.string ⟨(Mn.text n).toArray⟩) ∧ Below w.heap.size w w' := by
  by_cases hn : n < 0 <;> by_cases hc : n.natAbs % 100 < 10
  · exact text_n1 n h hn hc w hG
  · exact text_n2 n h hn hc w hG
  · exact text_p1 n h hn hc w hG
  · exact text_p2 n h hn hc w hG
end Go.Proofs.YtahagfdjpldblaaGreatDoor
