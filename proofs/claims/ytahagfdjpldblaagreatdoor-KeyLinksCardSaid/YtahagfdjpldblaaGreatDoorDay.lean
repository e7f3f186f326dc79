/-
  Package day: what its functions come to, as the machine runs them.
-/
import Derived.Test.YtahagfdjpldblaaGreatDoorGlb
import Derived.Test.YtahagfdjpldblaaGreatDoorKit
import Derived.Test.YtahagfdjpldblaaGreatDoorMoneyT
import Derived.Shelf.Strconv.Itoa3
namespace Go.Proofs.YtahagfdjpldblaaGreatDoor
open Go.RowKit
set_option linter.unusedVariables false
set_option linter.unusedSimpArgs false

namespace Dy
def ahead (y : Int) : Int := 365 * (y - 1) + (y - 1) / 4 - (y - 1) / 100 + (y - 1) / 400 - 719162
def leap (y : Int) : Bool := y % 4 == 0 && (!(y % 100 == 0) || y % 400 == 0)
def months : List Int := [31, 28, 31, 30, 31, 30, 31, 31, 30, 31, 30, 31]
def long (y : Int) (m : Nat) : Int := if m = 2 ∧ leap y = true then 29 else months.getD (m - 1) 0
end Dy
/-- what layer 4 asks of the package variables besides -/
structure Glb5 (w : World) : Prop where
  glb : Glb w
  mon : Lib.TabIs Tryz.prog w "transposal/day.months" .i64 Dy.months
theorem Glb5.below {w w' : World} (h : Glb5 w) (hb : Below w.heap.size w w') : Glb5 w' := ⟨h.glb.below hb, var_below h.mon hb⟩
theorem ahead_any (y : Int) (h : 1 ≤ y ∧ y ≤ 10000) (w : World) :
    Calls Tryz.prog 39 #[.int .i64 y] w fun e w' => e = .returned (.int .i64 (Dy.ahead y)) ∧ w' = w := by
  have e1 : IntKind.i64.wrap (y - 1) = y - 1 := by rw [IntKind.wrap_i64]; omega
  go_enter Tryz.func39, Tryz.ntmps39
  go_wp2
  go_ret
  exact ⟨ret_int rfl, rfl⟩
theorem leap_any (y : Int) (h : 1 ≤ y ∧ y ≤ 10000) (w : World) :
    Calls Tryz.prog 49 #[.int .i64 y] w fun e w' => e = .returned (.bool (Dy.leap y)) ∧ w' = w := by
  unfold Dy.leap
  cases h1 : (y % 4 == 0) <;> cases h2 : (y % 100 == 0) <;> cases h3 : (y % 400 == 0)
  all_goals
    have h2n : (y % 100 != 0) = !(y % 100 == 0) := rfl
    rw [h2] at h2n
    simp only [Bool.not_true, Bool.not_false] at h2n
    go_enter Tryz.func49, Tryz.ntmps49
    go_wp2
    go_ret
    exact ⟨rfl, rfl⟩
theorem long_any (y : Int) (m : Nat) (h : 1 ≤ y ∧ y ≤ 10000) (h1 : 1 ≤ m) (h2 : m ≤ 12) (w : World) (hM : Glb5 w) :
    Calls Tryz.prog 38 #[.int .i64 y, .int .i64 (m : Int)] w fun e w' => e = .returned (.int .i64 (Dy.long y m)) ∧ w' = w := by
  have hc : w.cell? ⟨0, m - 1, none⟩ = some (.int .i64 (Dy.months.getD (m - 1) 0)) := Lib.TabIs.cell hM.mon (by kernel_rfl) (m - 1) (by show m - 1 < 12; omega)
  obtain ⟨i, hi⟩ : ∃ i : Nat, m - 1 = i := ⟨_, rfl⟩
  have em : IntKind.i64.wrap ((m : Int) - 1) = (i : Int) := by rw [IntKind.wrap_i64]; omega
  have i1 : (0 : Int) ≤ (i : Int) := by omega
  have i2 : (i : Int) < 12 := by omega
  unfold Dy.long
  rw [hi] at hc ⊢
  generalize Dy.months.getD i 0 = x at *
  have LP := Lib.hid (leap_any y h)
  by_cases hm : m = 2
  · have hq : ((m : Int) == 2) = true := by rw [hm]; rfl
    clear hi
    cases hl : Dy.leap y with
    | true =>
      rw [hl] at LP
      rw [if_pos ⟨hm, rfl⟩]
      clear hm
      go_enter Tryz.func38, Tryz.ntmps38
      go_wp2_with fail
      refine (LP.out _).mono ?_
      rintro _ w1 ⟨rfl, rfl⟩
      go_wp2
      go_ret
      exact ⟨rfl, rfl⟩
    | false =>
      rw [hl] at LP
      rw [if_neg (by simp)]
      clear hm
      go_enter Tryz.func38, Tryz.ntmps38
      go_wp2_with fail
      refine (LP.out _).mono ?_
      rintro _ w1 ⟨rfl, rfl⟩
      go_wp2
      go_ret
      exact ⟨rfl, rfl⟩
  · have hq : ((m : Int) == 2) = false := by rw [beq_eq_false_iff_ne]; omega
    rw [if_neg (fun h => hm h.1)]
    clear hi hm
    go_enter Tryz.func38, Tryz.ntmps38
    go_wp2
    go_ret
    exact ⟨rfl, rfl⟩
end Go.Proofs.YtahagfdjpldblaaGreatDoor
