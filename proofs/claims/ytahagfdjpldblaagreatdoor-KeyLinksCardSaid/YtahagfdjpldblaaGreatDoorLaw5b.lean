/-
  The machine's side of the law KeyPacks: it answers true.
-/
import Derived.Test.YtahagfdjpldblaaGreatDoorKey
namespace Go.Proofs.YtahagfdjpldblaaGreatDoor
open Go.RowKit
set_option linter.unusedVariables false
set_option linter.unusedSimpArgs false

namespace Ky
/-- a key: account, entity, period -/
structure K where
  a : Nat
  e : Nat
  p : Nat
def K.ok (k : K) : Prop := k.a < 4294967296 ∧ k.e < 65536 ∧ k.p < 65536
def K.num (k : K) : Nat := k.a * 4294967296 + k.e * 65536 + k.p
def K.val (k : K) : Value := .agg #[.int .u32 (k.a : Int), .int .u16 (k.e : Int), .int .u16 (k.p : Int)]
def cmp (x y : Nat) : Int := if x < y then -1 else if y < x then 1 else 0
/-- the packed numbers' order is the keys' -/
theorem less_num (x y : K) (hx : x.ok) (hy : y.ok) : x.num < y.num ↔ (x.a < y.a ∨ x.a = y.a ∧ (x.e < y.e ∨ x.e = y.e ∧ x.p < y.p)) := by
  unfold K.ok at *
  unfold K.num
  omega
end Ky
open Ky
theorem isNaN_u64 (x : Int) (w : World) : Calls Tryz.prog 47 #[.int .u64 x] w fun e w' => e = .returned (.bool false) ∧ w' = w := by
  go_enter Tryz.func47, Tryz.ntmps47
  go_wp2
  go_ret
  exact ⟨rfl, rfl⟩
theorem cmp_u64 (x y : Nat) (w : World) : Calls Tryz.prog 36 #[.int .u64 (x : Int), .int .u64 (y : Int)] w fun e w' => e = .returned (.int .i64 (Ky.cmp x y)) ∧ w' = w := by
  unfold Ky.cmp
  rcases (show x < y ∨ y < x ∨ x = y by omega) with h | h | h
  · have h1 : (x : Int) < (y : Int) := by omega
    rw [if_pos h]
    go_enter Tryz.func36, Tryz.ntmps36
    go_wp2_with fail
    refine (isNaN_u64 _ _).mono ?_
    rintro _ w1 ⟨rfl, rfl⟩
    go_wp2_with fail
    refine (isNaN_u64 _ _).mono ?_
    rintro _ w1 ⟨rfl, rfl⟩
    go_wp2
    go_ret
    exact ⟨rfl, rfl⟩
  · have h1 : ((x : Int) < (y : Int)) = False := by simp; omega
    have h2 : (y : Int) < (x : Int) := by omega
    rw [if_neg (by omega), if_pos h]
    go_enter Tryz.func36, Tryz.ntmps36
    go_wp2_with fail
    refine (isNaN_u64 _ _).mono ?_
    rintro _ w1 ⟨rfl, rfl⟩
    go_wp2_with fail
    refine (isNaN_u64 _ _).mono ?_
    rintro _ w1 ⟨rfl, rfl⟩
    go_wp2
    go_ret
    exact ⟨rfl, rfl⟩
  · subst h
    rw [if_neg (by omega), if_neg (by omega)]
    go_enter Tryz.func36, Tryz.ntmps36
    go_wp2_with fail
    refine (isNaN_u64 _ _).mono ?_
    rintro _ w1 ⟨rfl, rfl⟩
    go_wp2_with fail
    refine (isNaN_u64 _ _).mono ?_
    rintro _ w1 ⟨rfl, rfl⟩
    go_wp2
    go_ret
    exact ⟨rfl, rfl⟩
theorem pack_key (k : K) (hk : k.ok) (w : World) : Calls Tryz.prog 22 #[k.val] w fun r w' => r = .returned (.int .u64 ((k.num : Nat) : Int)) ∧ Below w.heap.size w w' := pack_any k.a k.e k.p hk.1 hk.2.1 hk.2.2 w
set_option maxHeartbeats 1000000 in
theorem compare_any (x y : K) (hx : x.ok) (hy : y.ok) (w : World) : Calls Tryz.prog 27 #[x.val, y.val] w fun r w' => r = .returned (.int .i64 (Ky.cmp x.num y.num)) ∧ Below w.heap.size w w' := by
  have PX := Lib.hid (pack_key x hx)
  have PY := Lib.hid (pack_key y hy)
  have CM := Lib.hid (cmp_u64 x.num y.num)
  unfold K.val at *
  generalize Ky.cmp x.num y.num = c at *
  generalize ((x.num : Nat) : Int) = nx at *
  generalize ((y.num : Nat) : Int) = ny at *
  go_enter Tryz.func27, Tryz.ntmps27
  go_wp2_with fail
  have RA := (Row.new w #[.int .u32 (x.a : Int), .int .u16 (x.e : Int), .int .u16 (x.p : Int)] 29).alloc (.cells #[.int .u32 (y.a : Int), .int .u16 (y.e : Int), .int .u16 (y.p : Int)] 29)
  have RB := Row.new' (w.alloc (.cells #[.int .u32 (x.a : Int), .int .u16 (x.e : Int), .int .u16 (x.p : Int)] 29)) #[.int .u32 (y.a : Int), .int .u16 (y.e : Int), .int .u16 (y.p : Int)] 29 (g := w.heap.size + 1) (by simp)
  have hB := below_alloc (below_alloc (Below.refl _ w) (.cells #[.int .u32 (x.a : Int), .int .u16 (x.e : Int), .int .u16 (x.p : Int)] 29)) (.cells #[.int .u32 (y.a : Int), .int .u16 (y.e : Int), .int .u16 (y.p : Int)] 29)
  generalize (w.alloc (.cells #[.int .u32 (x.a : Int), .int .u16 (x.e : Int), .int .u16 (x.p : Int)] 29)).alloc (.cells #[.int .u32 (y.a : Int), .int .u16 (y.e : Int), .int .u16 (y.p : Int)] 29) = w2 at *
  obtain ⟨g, hg⟩ : ∃ g, g = w.heap.size := ⟨_, rfl⟩
  obtain ⟨g', hg'⟩ : ∃ g', g' = w.heap.size + 1 := ⟨_, rfl⟩
  rw [← hg] at RA
  rw [← hg'] at RB
  rw [← hg', ← hg]
  have a0 : w2.cell? ⟨g, 0, none⟩ = some (.int .u32 (x.a : Int)) := RA.cell 0
  have a1 : w2.cell? ⟨g, 1, none⟩ = some (.int .u16 (x.e : Int)) := RA.cell 1
  have a2 : w2.cell? ⟨g, 2, none⟩ = some (.int .u16 (x.p : Int)) := RA.cell 2
  have b0 : w2.cell? ⟨g', 0, none⟩ = some (.int .u32 (y.a : Int)) := RB.cell 0
  have b1 : w2.cell? ⟨g', 1, none⟩ = some (.int .u16 (y.e : Int)) := RB.cell 1
  have b2 : w2.cell? ⟨g', 2, none⟩ = some (.int .u16 (y.p : Int)) := RB.cell 2
  clear RA RB hg hg'
  go_region_held3 (fun w' => Below w.heap.size w w' ∧ w'.cell? ⟨g, 0, none⟩ = some (.int .u32 (x.a : Int)) ∧ w'.cell? ⟨g, 1, none⟩ = some (.int .u16 (x.e : Int)) ∧ w'.cell? ⟨g, 2, none⟩ = some (.int .u16 (x.p : Int)) ∧ w'.cell? ⟨g', 0, none⟩ = some (.int .u32 (y.a : Int)) ∧ w'.cell? ⟨g', 1, none⟩ = some (.int .u16 (y.e : Int)) ∧ w'.cell? ⟨g', 2, none⟩ = some (.int .u16 (y.p : Int))) (refine ⟨?_, ?_, ?_, ?_, ?_, ?_, ?_⟩ <;> first | assumption | exact below_dr hB | exact a0 | exact a1 | exact a2 | exact b0 | exact b1 | exact b2 | simp [go_sem, *]) (first | (go_at_call 22; rename_i hHeld _ _; ((with_reducible refine (PX.out _).mono ?_)); rintro e wx ⟨rfl, hb⟩; have HB := below_then hHeld.1 hb; have HC1 := cell_then hHeld.2.1 hb; have HC2 := cell_then hHeld.2.2.1 hb; have HC3 := cell_then hHeld.2.2.2.1 hb; have HC4 := cell_then hHeld.2.2.2.2.1 hb; have HC5 := cell_then hHeld.2.2.2.2.2.1 hb; have HC6 := cell_then hHeld.2.2.2.2.2.2 hb; clear hb hHeld) | (go_at_call 22; rename_i hHeld _ _; ((with_reducible refine (PY.out _).mono ?_)); rintro e wx ⟨rfl, hb⟩; have HB := below_then hHeld.1 hb; have HC1 := cell_then hHeld.2.1 hb; have HC2 := cell_then hHeld.2.2.1 hb; have HC3 := cell_then hHeld.2.2.2.1 hb; have HC4 := cell_then hHeld.2.2.2.2.1 hb; have HC5 := cell_then hHeld.2.2.2.2.2.1 hb; have HC6 := cell_then hHeld.2.2.2.2.2.2 hb; clear hb hHeld) | (go_at_call 36; rename_i hHeld _ _; ((with_reducible refine (CM.out _).mono ?_)); rintro e wx ⟨rfl, rfl⟩))
  rename_i hHeld
  have BB := hHeld.1
  clear hHeld
  go_wp2
  go_ret
  exact ⟨rfl, BB⟩
set_option maxHeartbeats 1000000 in
theorem less_any (x y : K) (hx : x.ok) (hy : y.ok) (w : World) : Calls Tryz.prog 13 #[x.val, y.val] w fun r w' => r = .returned (.bool (decide (x.num < y.num))) ∧ Below w.heap.size w w' := by
  have L := Lib.hid (less_num x y hx hy)
  unfold K.val
  have hB := below_alloc (below_alloc (Below.refl _ w) (.cells #[.int .u32 (x.a : Int), .int .u16 (x.e : Int), .int .u16 (x.p : Int)] 29)) (.cells #[.int .u32 (y.a : Int), .int .u16 (y.e : Int), .int .u16 (y.p : Int)] 29)
  rcases (show ¬ x.a = y.a ∨ (x.a = y.a ∧ ¬ x.e = y.e) ∨ (x.a = y.a ∧ x.e = y.e) by omega) with h | ⟨h, h2⟩ | ⟨h, h2⟩
  · have q1 : ((x.a : Int) != (y.a : Int)) = true := by rw [bne_iff_ne]; omega
    have R : decide (x.num < y.num) = decide ((x.a : Int) < (y.a : Int)) := by rw [decide_eq_decide, L.out]; omega
    rw [R]
    clear R L
    go_enter Tryz.func13, Tryz.ntmps13
    go_wp2
    go_ret
    exact ⟨ret_bool (by simp), hB⟩
  · have q1 : ((x.a : Int) != (y.a : Int)) = false := by rw [h]; simp
    have q2 : ((x.e : Int) != (y.e : Int)) = true := by rw [bne_iff_ne]; omega
    have R : decide (x.num < y.num) = decide ((x.e : Int) < (y.e : Int)) := by rw [decide_eq_decide, L.out]; omega
    rw [R]
    clear R L h
    go_enter Tryz.func13, Tryz.ntmps13
    go_wp2
    go_ret
    exact ⟨ret_bool (by simp), hB⟩
  · have q1 : ((x.a : Int) != (y.a : Int)) = false := by rw [h]; simp
    have q2 : ((x.e : Int) != (y.e : Int)) = false := by rw [h2]; simp
    have R : decide (x.num < y.num) = decide ((x.p : Int) < (y.p : Int)) := by rw [decide_eq_decide, L.out]; omega
    rw [R]
    clear R L h h2
    go_enter Tryz.func13, Tryz.ntmps13
    go_wp2
    go_ret
    exact ⟨ret_bool (by simp), hB⟩

end Go.Proofs.YtahagfdjpldblaaGreatDoor
