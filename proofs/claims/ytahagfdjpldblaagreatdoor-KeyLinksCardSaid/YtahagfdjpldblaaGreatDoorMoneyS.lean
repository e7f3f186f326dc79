/-
  What money.Sum comes to, as the machine runs it: the sum of a slice's numbers, if it fits.
-/
import Derived.Test.YtahagfdjpldblaaGreatDoorMoneyA
namespace Go.Proofs.YtahagfdjpldblaaGreatDoor
open Go.RowKit
set_option linter.unusedVariables false
set_option linter.unusedSimpArgs false

/-- the numbers of a slice that is not empty lie in memory -/
def Nums (w : World) (b off : Nat) (zs : List Int) : Prop := ∀ i, i < zs.length → w.cell? ⟨b, off + i, none⟩ = some (.int .i64 (zs.getD i 0))
theorem Nums.below {w w' : World} {b off : Nat} {zs : List Int} (h : Nums w b off zs) (hb : Below w.heap.size w w') : Nums w' b off zs := fun i hi => cell_then (h i hi) hb
theorem sum_take_succ (zs : List Int) (k : Nat) (h : k < zs.length) : (zs.take (k + 1)).sum = (zs.take k).sum + zs.getD k 0 := by
  rw [List.take_succ_eq_append_getElem h, List.sum_append]; simp [List.getD_eq_getElem?_getD, h]
theorem sum_bd (zs : List Int) (h : ∀ z ∈ zs, Wd.I64 z) : -9223372036854775808 * (zs.length : Int) ≤ zs.sum ∧ zs.sum ≤ 9223372036854775807 * (zs.length : Int) := by
  induction zs with
  | nil => simp
  | cons z l ih =>
    have h1 := h z (by simp)
    have h2 := ih (fun x hx => h x (by simp [hx]))
    unfold Wd.I64 at h1
    simp only [List.sum_cons, List.length_cons]
    omega

end Go.Proofs.YtahagfdjpldblaaGreatDoor
