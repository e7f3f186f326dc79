/-
  What money.Add, Neg come to, as the machine runs them.
-/
import Derived.Test.YtahagfdjpldblaaGreatDoorWide
namespace Go.Proofs.YtahagfdjpldblaaGreatDoor
open Go.RowKit
set_option linter.unusedVariables false
set_option linter.unusedSimpArgs false

/-- what fits into 64 bits -/
def Wd.fit (t : Int) : Value := if -9223372036854775808 ≤ t ∧ t ≤ 9223372036854775807 then .tuple #[.int .i64 t, .bool true] else .tuple #[.int .i64 0, .bool false]
theorem Wd.fit_yes {t : Int} (h : Wd.I64 t) : Wd.fit t = .tuple #[.int .i64 t, .bool true] := if_pos h
theorem Wd.fit_no {t : Int} (h : ¬ Wd.I64 t) : Wd.fit t = .tuple #[.int .i64 0, .bool false] := if_neg h
end Go.Proofs.YtahagfdjpldblaaGreatDoor
