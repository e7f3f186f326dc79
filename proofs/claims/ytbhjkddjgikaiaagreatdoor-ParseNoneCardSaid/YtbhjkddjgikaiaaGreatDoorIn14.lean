import Derived.Test.YtbhjkddjgikaiaaGreatDoorMrg36
import Derived.Test.YtbhjkddjgikaiaaGreatDoorOwnPair14
namespace Go.Proofs.YtbhjkddjgikaiaaGreatDoor
open Go.RowKit
set_option linter.unusedVariables false
set_option linter.unusedSimpArgs false
section
variable {H : Type} {enc : TypeId × Value → H} {W : World} {base : Nat} {sp : Nat → Bool} {held : Bool}
theorem open_bs {a : Option Addr} {len cap : Nat} {d0 : DataW H} {ps : List MemPlace} (h : DataW.Trod enc Tryz.prog W base sp held 22 (.slice a len cap) d0 ps) :
    ∃ l : List Int, l.length = len ∧ (∀ x ∈ l, 0 ≤ x ∧ x ≤ 255) ∧ NsAt .u8 W (.slice a len cap) l ∧ len ≤ cap ∧ cap ≤ maxLen := by
  obtain ⟨l, h1, h2, h3, h4, h5⟩ := open_elsO (fun x : Int => [Value.int .u8 x]) 1 0 (fun x => 0 ≤ x ∧ x ≤ 255) Tryz.underlying22 (by kernel_rfl) (by omega) (fun _ => rfl) rd_u8 h
  subst h1
  refine ⟨l, rfl, h2, ⟨a, cap, rfl, ?_⟩, h4, h5⟩
  rcases h3 with h | ⟨b, off, e, h⟩
  · exact .inl h
  · exact .inr ⟨b, off, e, fun i hi => by
      have := h i hi 0 _ rfl
      simpa using this⟩
end
theorem parseNone_len (a1 : Option Addr) (len1 cap1 : Nat) (l1 : List Int) (note word : ByteArray) (w : World) (hM : Glb13 w) (hl : l1.length = len1) (hb : ∀ x ∈ l1, 0 ≤ x ∧ x ≤ 255) (hE1 : NsAt .u8 w (.slice a1 len1 cap1) l1) :
    Calls Tryz.prog 3 #[.slice a1 len1 cap1, .string note, .string word] w fun e w' => e = .returned (.bool true) ∧ Below w.heap.size w w' := by
  subst hl
  exact parseNone_law a1 cap1 l1 note word w hM hE1 hb
end Go.Proofs.YtbhjkddjgikaiaaGreatDoor
