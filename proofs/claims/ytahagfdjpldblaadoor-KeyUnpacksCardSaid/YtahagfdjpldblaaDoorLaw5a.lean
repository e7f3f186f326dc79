/-
  The machine's side of the law KeyUnpacks: it answers true.
-/
import Derived.Test.YtahagfdjpldblaaDoorKey
namespace Go.Proofs.YtahagfdjpldblaaDoor
open Go.RowKit
set_option linter.unusedVariables false
set_option linter.unusedSimpArgs false

set_option maxHeartbeats 1000000 in
theorem keyUnpacks_any (n : Int) (h : 0 ≤ n ∧ n ≤ 18446744073709551615) (w : World) (hM : Glb5 w) :
    Calls Tryd.prog 3 #[.int .u64 n] w fun e w' => e = .returned (.bool true) ∧ Below w.heap.size w w' := by
  have U := Lib.hid (unpack_any n h)
  have P := Lib.hid fun W => pack_any (n / 4294967296).toNat (n / 65536 % 65536).toNat (n % 65536).toNat (by omega) (by omega) (by omega) W
  rw [show (((n / 4294967296).toNat * 4294967296 + (n / 65536 % 65536).toNat * 65536 + (n % 65536).toNat : Nat) : Int) = n by omega] at P
  rw [show (((n / 4294967296).toNat : Nat) : Int) = n / 4294967296 by omega, show (((n / 65536 % 65536).toNat : Nat) : Int) = n / 65536 % 65536 by omega, show (((n % 65536).toNat : Nat) : Int) = n % 65536 by omega] at P
  go_enter Tryd.func3, Tryd.ntmps3
  go_wp2_with fail
  refine (awake5 _ hM).mono ?_
  rintro _ w1 ⟨rfl, hb1⟩
  go_wp2_with fail
  refine (U.out _).mono ?_
  rintro _ w2 ⟨rfl, hb2⟩
  have hB2 := below_then hb1 hb2
  go_wp2_with fail
  refine (P.out _).mono ?_
  rintro _ w3 ⟨rfl, hb3⟩
  go_wp2
  go_ret
  exact ⟨rfl, below_then (below_alloc hB2 _) hb3⟩
end Go.Proofs.YtahagfdjpldblaaDoor
