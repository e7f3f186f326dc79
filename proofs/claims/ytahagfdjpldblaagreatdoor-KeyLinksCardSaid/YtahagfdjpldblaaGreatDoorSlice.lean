/-
  A slice of 64-bit numbers that comes in, and its sum.
-/
import Derived.Test.YtahagfdjpldblaaGreatDoorMoneyS
import Derived.ChangeSlices
import Derived.WideShapes
import Derived.OpenShut
import Derived.Below
namespace Go.Proofs.YtahagfdjpldblaaGreatDoor
open Go.ChangeShapes Go.WideShapes Go.RowKit
set_option linter.unusedVariables false
set_option linter.unusedSimpArgs false

def IsNums (w : World) (a : Option Addr) (len : Nat) (zs : List Int) : Prop := zs.length = len ∧ (∀ z ∈ zs, Wd.I64 z) ∧ (len = 0 ∨ ∃ b off, a = some ⟨b, off, none⟩ ∧ Nums w b off zs)
theorem IsNums.below {w w' : World} {a : Option Addr} {len : Nat} {zs : List Int} (h : IsNums w a len zs) (hb : Below w.heap.size w w') : IsNums w' a len zs := by
  obtain ⟨h1, h2, h3⟩ := h
  refine ⟨h1, h2, ?_⟩
  rcases h3 with h3 | ⟨b, off, e, h3⟩
  · exact .inl h3
  · exact .inr ⟨b, off, e, h3.below hb⟩
theorem open_nums {H : Type} {enc : TypeId × Value → H} {W : World} {base : Nat} {sp : Nat → Bool} {held : Bool} {d : DataW H} {ps : List MemPlace} {a : Option Addr} {len cap : Nat}
    (h : DataW.Trod enc Tryz.prog W base sp held 80 (.slice a len cap) d ps) : ∃ zs, IsNums W a len zs ∧ len ≤ cap ∧ cap ≤ maxLen := by
  obtain ⟨fuel, hf⟩ := h
  rcases open_ints Tryz.underlying80 Tryz.underlying2 (by kernel_rfl) hf with ⟨hcs, _⟩ | ⟨x, l, c, zs, hcs, _, hl, hm, hz, _, hcell, hwz⟩
  · simp [Value.cells] at hcs
    obtain ⟨rfl, rfl, rfl⟩ := hcs
    exact ⟨[], ⟨rfl, by simp, .inl rfl⟩, Nat.le_refl _, Nat.zero_le _⟩
  · simp [Value.cells] at hcs
    obtain ⟨rfl, rfl, rfl⟩ := hcs
    have hl2 : len ≤ zs.length := by rw [hz]; split <;> omega
    refine ⟨zs.take len, ⟨by simp; omega, fun z hz => ?_, ?_⟩, hl, hm⟩
    · have := hwz z (List.mem_of_mem_take hz)
      exact Go.bounds_i64 this
    · by_cases h0 : len = 0
      · exact .inl h0
      · right
        obtain ⟨b, off, spot⟩ := x
        have h00 := hcell 0 (by omega)
        have hs : spot = none := by
          cases spot with
          | none => rfl
          | some k =>
            simp only [World.cell?, Addr.add] at h00
            split at h00 <;> simp at h00
        subst hs
        refine ⟨b, off, rfl, fun i hi => ?_⟩
        have hi2 : i < len := by simp at hi; omega
        have := hcell i (by omega)
        have e2 : (⟨b, off, none⟩ : Addr).add i = ⟨b, off + i, none⟩ := by simp [Addr.add]
        rw [e2] at this
        rw [show (zs.take len).getD i 0 = zs.getD i 0 by simp [List.getD_eq_getElem?_getD, List.getElem?_take, hi2]]
        exact this
end Go.Proofs.YtahagfdjpldblaaGreatDoor
