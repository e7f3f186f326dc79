/-
  KeyPacks over numbers as they come in.
-/
import Derived.Test.YtahagfdjpldblaaDoorLaw5b
namespace Go.Proofs.YtahagfdjpldblaaDoor
open Go.RowKit Ky
theorem keyPacks_law (a e p a' e' p' s : Int) (h1 : 0 ≤ a ∧ a ≤ 4294967295) (h2 : 0 ≤ e ∧ e ≤ 65535) (h3 : 0 ≤ p ∧ p ≤ 65535) (k1 : 0 ≤ a' ∧ a' ≤ 4294967295) (k2 : 0 ≤ e' ∧ e' ≤ 65535) (k3 : 0 ≤ p' ∧ p' ≤ 65535) (hs : 0 ≤ s ∧ s ≤ 255) (w : World) (hM : Glb5 w) :
    Calls Tryd.prog 4 #[.agg #[.int .u32 a, .int .u16 e, .int .u16 p], .agg #[.int .u32 a', .int .u16 e', .int .u16 p'], .int .u8 s] w fun r w' => r = .returned (.bool true) ∧ Below w.heap.size w w' := by
  have h := keyPacks_any ⟨a.toNat, e.toNat, p.toNat⟩ ⟨a'.toNat, e'.toNat, p'.toNat⟩ (by unfold K.ok; dsimp only; omega) (by unfold K.ok; dsimp only; omega) s.toNat w hM
  unfold K.val at h
  dsimp only at h
  rw [show ((a.toNat : Nat) : Int) = a by omega, show ((e.toNat : Nat) : Int) = e by omega, show ((p.toNat : Nat) : Int) = p by omega, show ((a'.toNat : Nat) : Int) = a' by omega, show ((e'.toNat : Nat) : Int) = e' by omega, show ((p'.toNat : Nat) : Int) = p' by omega, show ((s.toNat : Nat) : Int) = s by omega] at h
  exact h
end Go.Proofs.YtahagfdjpldblaaDoor
