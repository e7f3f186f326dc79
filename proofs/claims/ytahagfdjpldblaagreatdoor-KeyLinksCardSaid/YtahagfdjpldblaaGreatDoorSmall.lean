/-
  Law 5's small; Pairs of nil links.
-/
import Derived.Test.YtahagfdjpldblaaGreatDoorPairs2
namespace Go.Proofs.YtahagfdjpldblaaGreatDoor
open Go.RowKit Ky
set_option linter.unusedVariables false
set_option linter.unusedSimpArgs false

def sm (k : K) : K := ⟨k.a % 4, k.e % 3, k.p % 3⟩
theorem sm_ok (k : K) : (sm k).ok := by unfold K.ok sm; dsimp only; omega
theorem small_any (k : K) (hk : k.ok) (w : World) : Calls Tryz.prog 8 #[k.val] w fun e w' => e = .returned (sm k).val ∧ Below w.heap.size w w' := by
  obtain ⟨ha, he, hp⟩ := hk
  unfold K.val sm
  go_enter Tryz.func8, Tryz.ntmps8
  go_wp2
  refine bodyPost_ret (v := .agg #[.int .u32 ((k.a % 4 : Nat) : Int), .int .u16 ((k.e % 3 : Nat) : Int), .int .u16 ((k.p % 3 : Nat) : Int)]) ?_ rfl ⟨rfl, ?_⟩
  · simp [results, Tryz.results8, go_sem]
  · exact below_alloc (below_alloc (Below.refl _ w) _) _
theorem sorted_none (w : World) : Calls Tryz.prog 29 #[.map none, .func (.func 30) #[] #[]] w fun e w' => e = .returned (.slice none 0 0) ∧ Below w.heap.size w w' := by
  have HN := Lib.hid fun W => AnyF.slices_SortFunc_none { Tryz.laysSlF06_f37 with } none 0 (.func (.func 30) #[] #[]) W
  have hrg := run_range_nilMap (P := Tryz.prog) w 50 49 3 Tryz.underlying50
  have hnx := run_next_nilMap (P := Tryz.prog) w 0 0 0 #[]
  go_enter Tryz.func29, Tryz.ntmps29
  go_wp2_with fail
  refine wp_loop_rounds 1 ?_
  rw [rounds_succ]
  go_wp2_with fail
  refine (HN.out _).mono ?_
  rintro _ w1 ⟨rfl, rfl⟩
  go_wp2
  go_ret
  exact ⟨rfl, below_alloc (Below.refl _ w) _⟩
theorem pairs_none (w : World) : Calls Tryz.prog 16 #[.map none] w fun e w' => e = .returned (.slice none 0 0) ∧ Below w.heap.size w w' := by
  go_enter Tryz.func16, Tryz.ntmps16
  go_wp2_with fail
  refine (sorted_none _).mono ?_
  rintro _ w1 ⟨rfl, hb⟩
  go_wp2
  go_ret
  exact ⟨rfl, hb⟩
end Go.Proofs.YtahagfdjpldblaaGreatDoor
