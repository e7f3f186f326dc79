/-
  The machine's side of the law ShareAllots: it answers true.
-/
import Derived.Test.YtpgjmhhdhngdcaaDoorAllotL
namespace Go.Proofs.YtpgjmhhdhngdcaaDoor
open Go.RowKit
set_option linter.unusedVariables false
set_option linter.unusedSimpArgs false

theorem wOf_pos (us : List Nat) (h1 : 1 ≤ us.length) : 0 < (wOf us).sum := by
  have h0 := wOf_bd us 0 (by omega)
  have := Sh.getD_le_sum (wOf us) 0
  omega
theorem allotL_nums (a : Int) (p : Option Addr) (n cap : Nat) (ws : List Nat) (w : World) (hI : Wd.I64 a) (hn : IsNums w p n (ni ws)) (h1 : 1 ≤ n) (h8 : n ≤ 8) (hw : ∀ i, i < n → 1 ≤ ws.getD i 0 ∧ ws.getD i 0 ≤ 1000000) :
    Calls Tryd.prog 29 #[.int .i64 a, .slice p n cap] w fun e w' => ∃ q k, e = .returned (.slice q n k) ∧ IsNums w' q n (Sh.allot a ws) ∧ Below w.heap.size w w' := by
  obtain ⟨hl, _, hn⟩ := hn
  have hl2 : ws.length = n := by simpa [ni] using hl
  rcases hn with h | ⟨b, off, rfl, hn⟩
  · omega
  · refine (allotL_ok a b off n cap ws w hI hn hl2 h1 h8 hw).mono ?_
    rintro _ w' ⟨v, rfl, hown, hb⟩
    have hT : 0 < ws.sum := by
      have h := hw 0 (by omega)
      have := Sh.getD_le_sum ws 0
      omega
    obtain ⟨q, k, rfl, hN⟩ := nums_of_own hown (allot_I64 a ws hI hT)
    exact ⟨q, k, rfl, hN, hb⟩

set_option maxHeartbeats 2000000 in
theorem shareAllots_any (a : Int) (p : Option Addr) (n cap0 : Nat) (us : List Nat) (w : World) (hG : Glb w) (hI : Wd.I64 a) (hn : IsU32 w p n us) (h1 : 1 ≤ n) (h8 : n ≤ 8) :
    Calls Tryd.prog 8 #[.int .i64 a, .slice p n cap0] w fun e w' => e = .returned (.bool true) ∧ Below w.heap.size w w' := by
  have hl := hn.1
  have HN := Lib.hid hn
  clear hn
  have hq1 : ((n : Int) == 0) = false := by simp; omega
  have hq2 : decide ((8 : Int) < (n : Int)) = false := by simp; omega
  have HW := Lib.hid (wOf_bd us)
  have WT := Lib.hid fun (W : World) (hb : Below w.heap.size w W) => weights_any p n cap0 us W (HN.out.below hb) h8
  have AL := Lib.hid fun (q : Option Addr) (k : Nat) (W : World) (hN : IsNums W q n (ni (wOf us))) => allot_nums a q n k (wOf us) W hI hN h1 h8 (fun i hi => HW.out i (by omega))
  have AM := Lib.hid fun (q : Option Addr) (k : Nat) (W : World) (hN : IsNums W q n (ni (wOf us))) => allotL_nums a q n k (wOf us) W hI hN h1 h8 (fun i hi => HW.out i (by omega))
  generalize wOf us = ws at *
  clear HN
  go_enter Tryd.func8, Tryd.ntmps8
  go_wp2_with fail
  refine (awake3 _ hG).mono ?_
  rintro _ w1 ⟨rfl, hb1⟩
  go_wp2_with fail
  refine (WT.out _ hb1).mono ?_
  rintro _ w2 ⟨q, cap, rfl, hN, hb2⟩
  have hB2 := below_then hb1 hb2
  go_wp2_with fail
  refine (AL.out q cap _ hN).mono ?_
  rintro _ w3 ⟨q2, cap2, rfl, hN2, hb3⟩
  have hB3 := below_then hB2 hb3
  replace hN := hN.below hb3
  go_wp2_with fail
  refine (AM.out q cap _ hN).mono ?_
  rintro _ w4 ⟨q3, cap3, rfl, hN3, hb4⟩
  have hB4 := below_then hB3 hb4
  replace hN2 := hN2.below hb4
  go_wp2_with fail
  refine (equal_nums q2 q3 cap2 cap3 n (Sh.allot a ws) _ hN2 hN3 (by omega)).mono ?_
  rintro _ w5 ⟨rfl, hb5⟩
  go_wp2
  go_ret
  exact ⟨rfl, below_then hB4 hb5⟩
theorem shareAllots_law (a : Int) (p : Option Addr) (n cap0 : Nat) (us : List Nat) (w : World) (hG : Glb w) (hI : Wd.I64 a) (hn : IsU32 w p n us) :
    Calls Tryd.prog 8 #[.int .i64 a, .slice p n cap0] w fun e w' => e = .returned (.bool true) ∧ Below w.heap.size w w' := by
  by_cases h : 1 ≤ n ∧ n ≤ 8
  · exact shareAllots_any a p n cap0 us w hG hI hn h.1 h.2
  · by_cases h0 : n = 0
    · subst h0
      go_enter Tryd.func8, Tryd.ntmps8
      go_wp2_with fail
      refine (awake3 _ hG).mono ?_
      rintro _ w1 ⟨rfl, hb1⟩
      go_wp2
      go_ret
      exact ⟨rfl, hb1⟩
    · have hq1 : ((n : Int) == 0) = false := by simp; omega
      have hq2 : (8 : Int) < (n : Int) := by omega
      go_enter Tryd.func8, Tryd.ntmps8
      go_wp2_with fail
      refine (awake3 _ hG).mono ?_
      rintro _ w1 ⟨rfl, hb1⟩
      go_wp2
      go_ret
      exact ⟨rfl, hb1⟩
end Go.Proofs.YtpgjmhhdhngdcaaDoor
