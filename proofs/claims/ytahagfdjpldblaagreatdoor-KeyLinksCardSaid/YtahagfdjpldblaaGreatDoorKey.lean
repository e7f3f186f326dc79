/-
  Package key: what its functions come to, as the machine runs them.
-/
import Derived.Test.YtahagfdjpldblaaGreatDoorAwake4
import Derived.Deep.QuietTactic
import Derived.BigQuiet
import Derived.Laws.Bits64b
namespace Go.Proofs.YtahagfdjpldblaaGreatDoor
open Go.RowKit
set_option linter.unusedVariables false
set_option linter.unusedSimpArgs false

theorem or_add (a b i : Nat) (h : b < 2 ^ i) : (a * 2 ^ i) ||| b = a * 2 ^ i + b := by
  rw [← Nat.shiftLeft_eq]
  exact (Nat.shiftLeft_add_eq_or_of_lt h a).symm
theorem pack_bits (a e p : Nat) (ha : a < 4294967296) (he : e < 65536) (hp : p < 65536) :
    bits BinOp.or IntKind.u64 (bits BinOp.or IntKind.u64 ((a : Int) * 4294967296) ((e : Int) * 65536)) (p : Int) = ((a * 4294967296 + e * 65536 + p : Nat) : Int) := by
  have e1 : bits BinOp.or IntKind.u64 ((a : Int) * 4294967296) ((e : Int) * 65536) = ((a * 4294967296 + e * 65536 : Nat) : Int) := by
    have h := bits_or_u64_nat (a * 4294967296) (e * 65536) (by omega) (by omega)
    rw [show ((a * 4294967296 : Nat) : Int) = (a : Int) * 4294967296 by omega, show ((e * 65536 : Nat) : Int) = (e : Int) * 65536 by omega] at h
    rw [h, or_add a (e * 65536) 32 (by omega)]
  rw [e1, bits_or_u64_nat _ p (by omega) (by omega)]
  rw [show a * 4294967296 + e * 65536 = (a * 65536 + e) * 2 ^ 16 by omega, or_add _ p 16 (by omega)]
theorem pack_any (a e p : Nat) (ha : a < 4294967296) (he : e < 65536) (hp : p < 65536) (w : World) :
    Calls Tryz.prog 22 #[.agg #[.int .u32 (a : Int), .int .u16 (e : Int), .int .u16 (p : Int)]] w fun r w' => r = .returned (.int .u64 ((a * 4294967296 + e * 65536 + p : Nat) : Int)) ∧ Below w.heap.size w w' := by
  go_enter Tryz.func22, Tryz.ntmps22
  go_wp2
  go_ret
  exact ⟨ret_int (pack_bits a e p ha he hp), (Below.refl _ _).alloc (Nat.le_refl _) _⟩
theorem awake5 (w : World) (hM : Glb5 w) : Calls Tryz.prog 6 #[] w fun e w' => e = .returned (.bool true) ∧ Below w.heap.size w w' := by
  have P := Lib.hid (pack_any 1 2 3 (by omega) (by omega) (by omega))
  rw [show ((1 * 4294967296 + 2 * 65536 + 3 : Nat) : Int) = 4295098371 from rfl] at P
  go_enter Tryz.func6, Tryz.ntmps6
  go_wp2_with fail
  refine (P.out _).mono ?_
  rintro _ w1 ⟨rfl, hb1⟩
  go_wp2_with fail
  refine (awake4 _ (hM.below hb1)).mono ?_
  rintro _ w2 ⟨rfl, hb2⟩
  go_wp2
  go_ret
  exact ⟨rfl, below_then hb1 hb2⟩
end Go.Proofs.YtahagfdjpldblaaGreatDoor
