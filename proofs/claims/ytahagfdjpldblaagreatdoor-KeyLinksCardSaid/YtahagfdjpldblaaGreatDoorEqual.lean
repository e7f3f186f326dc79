/-
  slices.Equal over two slices of the same 64-bit numbers.
-/
import Derived.Test.YtahagfdjpldblaaGreatDoorClone
import Derived.Test.YtahagfdjpldblaaGreatDoorArr
import Derived.Deep.QuietTactic
import Derived.Deep.RegionHeld3
namespace Go.Proofs.YtahagfdjpldblaaGreatDoor
open Go.RowKit
set_option linter.unusedVariables false
set_option linter.unusedSimpArgs false

set_option maxHeartbeats 1000000 in
theorem equal_true (b1 o1 k1 b2 o2 k2 n : Nat) (zs : List Int) (w : World) (h1 : Nums w b1 o1 zs) (h2 : Nums w b2 o2 zs) (hl : zs.length = n) (hn : n ≤ 1000) :
    Calls Tryz.prog 43 #[.slice (some ⟨b1, o1, none⟩) n k1, .slice (some ⟨b2, o2, none⟩) n k2] w fun e w' => e = .returned (.bool true) ∧ Below w.heap.size w w' := by
  have H1 := Lib.hid h1
  have H2 := Lib.hid h2
  clear h1 h2
  go_enter Tryz.func43, Tryz.ntmps43
  go_wp2_with fail
  go_loopw [13] (fun i wr => ∃ k : Nat, k ≤ n ∧ i = .int .i64 k ∧ Below w.heap.size w wr) (fun i _ => n - (intOf i).toNat)
  case atStart => exact ⟨0, by omega, rfl, Below.refl _ _⟩
  case round =>
    obtain ⟨k, hk, rfl, BB⟩ := hrel
    by_cases hlt : k < n
    · have c1 : wr.cell? ⟨b1, o1 + k, none⟩ = some (.int .i64 (zs.getD k 0)) := (BB.cell (block_lt_of_cell (H1.out k (by omega)))).trans (H1.out k (by omega))
      have c2 : wr.cell? ⟨b2, o2 + k, none⟩ = some (.int .i64 (zs.getD k 0)) := (BB.cell (block_lt_of_cell (H2.out k (by omega)))).trans (H2.out k (by omega))
      have hk1 : (0 : Int) ≤ (k : Int) := by omega
      have hk2 : (k : Int) < (n : Int) := by omega
      generalize zs.getD k 0 = z at *
      go_wp2_with fail
      go_region_held3 (fun w' => Below w.heap.size w w' ∧ w'.cell? ⟨b1, o1 + k, none⟩ = some (.int .i64 z) ∧ w'.cell? ⟨b2, o2 + k, none⟩ = some (.int .i64 z)) (refine ⟨?_, ?_, ?_⟩ <;> first | assumption | exact below_dr BB | exact c1 | exact c2) (fail)
      rename_i hHeld
      have BB2 := hHeld.1
      go_wp2
      go_roundw
      case rel => exact ⟨k + 1, by omega, by go_num, by assumption⟩
      case measure => simp [intOf]; omega
    · have hk0 : n = k := by omega
      subst hk0
      go_wp2
      go_ret
      exact ⟨rfl, BB⟩
/-- slices.Equal over two slices of the same numbers, whatever they lie in -/
theorem equal_nums (a1 a2 : Option Addr) (k1 k2 n : Nat) (zs : List Int) (w : World) (h1 : IsNums w a1 n zs) (h2 : IsNums w a2 n zs) (hn : n ≤ 1000) :
    Calls Tryz.prog 43 #[.slice a1 n k1, .slice a2 n k2] w fun e w' => e = .returned (.bool true) ∧ Below w.heap.size w w' := by
  obtain ⟨hl, _, h1⟩ := h1
  obtain ⟨_, _, h2⟩ := h2
  rcases h1 with rfl | ⟨b1, o1, rfl, h1⟩
  · go_enter Tryz.func43, Tryz.ntmps43
    go_wp2_with fail
    refine wp_loop_rounds 1 ?_
    rw [rounds_succ]
    go_wp2
    go_ret
    exact ⟨rfl, Below.refl _ _⟩
  · rcases h2 with rfl | ⟨b2, o2, rfl, h2⟩
    · go_enter Tryz.func43, Tryz.ntmps43
      go_wp2_with fail
      refine wp_loop_rounds 1 ?_
      rw [rounds_succ]
      go_wp2
      go_ret
      exact ⟨rfl, Below.refl _ _⟩
    · exact equal_true b1 o1 k1 b2 o2 k2 n zs w h1 h2 hl hn
end Go.Proofs.YtahagfdjpldblaaGreatDoor
