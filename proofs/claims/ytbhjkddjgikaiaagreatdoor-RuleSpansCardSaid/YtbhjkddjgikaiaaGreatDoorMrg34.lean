/-
  Own texts, several in one (Name6, Raw13, Raw13b).
-/
import Derived.Test.YtbhjkddjgikaiaaGreatDoorMrg26
import Derived.Test.YtbhjkddjgikaiaaGreatDoorMrg29
namespace Go.Proofs.YtbhjkddjgikaiaaGreatDoor
open Go.RowKit
set_option linter.unusedVariables false
set_option linter.unusedSimpArgs false
namespace Sc
def names6 : List (List UInt8) := [[67, 97, 115, 104], [97], [66, 97, 110, 107, 32, 49], [76, 111, 115, 115, 46, 120], [49, 50, 51, 52, 53, 54, 55, 56, 57, 48, 49, 50, 51, 52, 53, 54, 55, 56, 57, 48, 49, 50, 51, 52, 53, 54, 55, 56, 57, 48]]
def name6 (n : Nat) : List UInt8 := names6.getD (n % 5) []
end Sc
set_option maxHeartbeats 4000000 in
set_option maxRecDepth 100000 in
theorem name6_any (n : Nat) (hn : n ≤ 255) (w : World) :
    Calls Tryz.prog 64 #[.int .u8 (n : Int)] w fun e w' => e = .returned (.string ⟨(Sc.name6 n).toArray⟩) ∧ Below w.heap.size w w' := by
  have R0 := Row.new w (sv Sc.names6).toArray 9
  have B0 := Lib.hid (below_alloc (Below.refl _ w) (.cells (sv Sc.names6).toArray 9))
  have m0 : ((n : Int)).tmod 5 = ((n % 5 : Nat) : Int) := by
    rw [Int.tmod_eq_emod_of_nonneg (by omega)]; rfl
  unfold Sc.name6
  have hm : n % 5 < 5 := by omega
  generalize n % 5 = m at *
  have hm2 : m = 0 ∨ m = 1 ∨ m = 2 ∨ m = 3 ∨ m = 4 := by omega
  rcases hm2 with rfl | rfl | rfl | rfl | rfl
  · go_enter Tryz.func64, Tryz.ntmps64
    go_wp2
    exact bodyPost_ret (v := .string ⟨(Sc.names6.getD 0 []).toArray⟩) (by simp [results, Tryz.results64, go_sem]; rfl) rfl ⟨rfl, B0.out⟩
  · go_enter Tryz.func64, Tryz.ntmps64
    go_wp2
    exact bodyPost_ret (v := .string ⟨(Sc.names6.getD 1 []).toArray⟩) (by simp [results, Tryz.results64, go_sem]; rfl) rfl ⟨rfl, B0.out⟩
  · go_enter Tryz.func64, Tryz.ntmps64
    go_wp2
    exact bodyPost_ret (v := .string ⟨(Sc.names6.getD 2 []).toArray⟩) (by simp [results, Tryz.results64, go_sem]; rfl) rfl ⟨rfl, B0.out⟩
  · go_enter Tryz.func64, Tryz.ntmps64
    go_wp2
    exact bodyPost_ret (v := .string ⟨(Sc.names6.getD 3 []).toArray⟩) (by simp [results, Tryz.results64, go_sem]; rfl) rfl ⟨rfl, B0.out⟩
  · go_enter Tryz.func64, Tryz.ntmps64
    go_wp2
    exact bodyPost_ret (v := .string ⟨(Sc.names6.getD 4 []).toArray⟩) (by simp [results, Tryz.results64, go_sem]; rfl) rfl ⟨rfl, B0.out⟩
end Go.Proofs.YtbhjkddjgikaiaaGreatDoor

namespace Go.Proofs.YtbhjkddjgikaiaaGreatDoor
open Go.RowKit
set_option linter.unusedVariables false
set_option linter.unusedSimpArgs false

namespace Sc
/-- law 13's O -/
structure O where
  kind : Nat
  a : Nat
  b : Nat
  nm : Nat
  parts : List (Nat × Nat)
  first : Int
  long : List Int
structure O.ok (x : O) : Prop where
  kind : x.kind ≤ 255
  a : x.a ≤ 255
  b : x.b ≤ 255
  nm : x.nm ≤ 255
  parts : ∀ p ∈ x.parts, p.1 ≤ 255 ∧ p.2 ≤ 4294967295
  plen : x.parts.length ≤ 9223372036854775807
  first : -32768 ≤ x.first ∧ x.first ≤ 32767
  long : ∀ n ∈ x.long, 0 ≤ n ∧ n ≤ 255
  llen : x.long.length ≤ 9223372036854775807
end Sc
def ov (x : Sc.O) (vp vl : Value) : List Value := [.int .u8 (x.kind : Int), .int .u8 (x.a : Int), .int .u8 (x.b : Int), .int .u8 (x.nm : Int), vp, .int .i16 x.first, vl]
def pov (p : Nat × Nat) : List Value := [.int .u8 (p.1 : Int), .int .u32 (p.2 : Int)]
def PosAt (w : World) (v : Value) (l : List (Nat × Nat)) : Prop := ∃ p cap, v = .slice p l.length cap ∧ ElsAt pov 2 (0, 0) w p l
theorem PosAt.below {w w' : World} {v : Value} {l : List (Nat × Nat)} (h : PosAt w v l) (hb : Below w.heap.size w w') : PosAt w' v l := by
  obtain ⟨p, cap, e, h⟩ := h
  exact ⟨p, cap, e, h.below hb⟩
end Go.Proofs.YtbhjkddjgikaiaaGreatDoor

namespace Go.Proofs.YtbhjkddjgikaiaaGreatDoor
open Go.RowKit
set_option linter.unusedVariables false
set_option linter.unusedSimpArgs false
namespace Sc
end Sc
end Go.Proofs.YtbhjkddjgikaiaaGreatDoor
