/-
  What share.Allot comes to where the weights may not be.
-/
import Derived.Test.YtahagfdjpldblaaGreatDoorShare
namespace Go.Proofs.YtahagfdjpldblaaGreatDoor
open Go.RowKit
set_option linter.unusedVariables false
set_option linter.unusedSimpArgs false

theorem allot_size (a : Int) (p : Option Addr) (n cap : Nat) (w : World) (h : n < 1 ∨ 8 < n) :
    Calls Tryz.prog 42 #[.int .i64 a, .slice p n cap] w fun e w' => e = .returned (.tuple #[.slice none 0 0, .int .i64 2]) ∧ w = w' := by
  rcases h with h | h
  · have hq1 : (n : Int) < 1 := by omega
    go_enter Tryz.func42, Tryz.ntmps42
    go_wp2
    go_ret2
    exact ⟨rfl, rfl⟩
  · have hq1 : ¬ (n : Int) < 1 := by omega
    have hq2 : (8 : Int) < (n : Int) := by omega
    go_enter Tryz.func42, Tryz.ntmps42
    go_wp2
    go_ret2
    exact ⟨rfl, rfl⟩

set_option maxHeartbeats 2000000 in
theorem allot_range (a : Int) (b off n cap : Nat) (zs : List Int) (w : World) (hn : Nums w b off zs) (hz : ∀ z ∈ zs, Wd.I64 z) (hl : zs.length = n) (h1 : 1 ≤ n) (h8 : n ≤ 8) (hbad : ∃ i, i < n ∧ ¬ (1 ≤ zs.getD i 0 ∧ zs.getD i 0 ≤ 1000000)) :
    Calls Tryz.prog 42 #[.int .i64 a, .slice (some ⟨b, off, none⟩) n cap] w fun e w' => e = .returned (.tuple #[.slice none 0 0, .int .i64 5]) ∧ w = w' := by
  have HN := Lib.hid hn
  have HB := Lib.hid hbad
  clear hn hbad hz
  have hq1 : ((n : Int) < 1) = False := by simp; omega
  have hq2 : ((8 : Int) < (n : Int)) = False := by simp; omega
  go_enter Tryz.func42, Tryz.ntmps42
  go_wp2_with fail
  go_loopw [6, 28] (fun t i wr => ∃ k s : Nat, k ≤ n ∧ i = .int .i64 k ∧ t = .int .i64 (s : Int) ∧ s ≤ k * 1000000 ∧ (∀ i, i < k → 1 ≤ zs.getD i 0 ∧ zs.getD i 0 ≤ 1000000) ∧ w = wr) (fun _ i _ => n - (intOf i).toNat)
  case atStart => exact ⟨0, 0, by omega, rfl, rfl, by omega, fun i h => by omega, rfl⟩
  case round =>
    obtain ⟨k, s, hk, rfl, rfl, hs, hg, hw⟩ := hrel
    subst hw
    replace hg := Lib.hid hg
    by_cases hlt : k < n
    · have hc := HN.out k (by omega)
      by_cases hz : 1 ≤ zs.getD k 0 ∧ zs.getD k 0 ≤ 1000000
      · have hg2 : Hid (∀ i, i < k + 1 → 1 ≤ zs.getD i 0 ∧ zs.getD i 0 ≤ 1000000) := Lib.hid fun i hi => by
          by_cases c : i < k
          · exact hg.out i c
          · rw [show i = k by omega]; exact hz
        generalize zs.getD k 0 = z at *
        obtain ⟨z, rfl⟩ : ∃ m : Nat, z = (m : Int) := ⟨z.toNat, by omega⟩
        go_wp2
        go_roundw
        case rel => exact ⟨k + 1, s + z, by omega, by go_num, by go_num, by omega, hg2.out, trivial⟩
        case measure => simp [intOf]; omega
      · generalize zs.getD k 0 = z at *
        by_cases h0 : z < 1
        · go_wp2
          go_ret2
          exact ⟨rfl, rfl⟩
        · have h2 : 1000000 < z := by omega
          go_wp2
          go_ret2
          exact ⟨rfl, rfl⟩
    · obtain ⟨i, hi, hb⟩ := HB.out
      exact absurd (hg.out i (by omega)) hb
end Go.Proofs.YtahagfdjpldblaaGreatDoor
