/-
  The machine's side of the law KeyPacks: it answers true.
-/
import Derived.Test.YtahagfdjpldblaaDoorKey
namespace Go.Proofs.YtahagfdjpldblaaDoor
open Go.RowKit
set_option linter.unusedVariables false
set_option linter.unusedSimpArgs false

namespace Ky
/-- a key: account, entity, period -/
structure K where
  a : Nat
  e : Nat
  p : Nat
def K.ok (k : K) : Prop := k.a < 4294967296 ∧ k.e < 65536 ∧ k.p < 65536
def K.num (k : K) : Nat := k.a * 4294967296 + k.e * 65536 + k.p
def K.val (k : K) : Value := .agg #[.int .u32 (k.a : Int), .int .u16 (k.e : Int), .int .u16 (k.p : Int)]
def cmp (x y : Nat) : Int := if x < y then -1 else if y < x then 1 else 0
/-- the packed numbers' order is the keys' -/
theorem less_num (x y : K) (hx : x.ok) (hy : y.ok) : x.num < y.num ↔ (x.a < y.a ∨ x.a = y.a ∧ (x.e < y.e ∨ x.e = y.e ∧ x.p < y.p)) := by
  unfold K.ok at *
  unfold K.num
  omega
end Ky
open Ky
theorem isNaN_u64 (x : Int) (w : World) : Calls Tryd.prog 15 #[.int .u64 x] w fun e w' => e = .returned (.bool false) ∧ w' = w := by
  go_enter Tryd.func15, Tryd.ntmps15
  go_wp2
  go_ret
  exact ⟨rfl, rfl⟩
theorem cmp_u64 (x y : Nat) (w : World) : Calls Tryd.prog 11 #[.int .u64 (x : Int), .int .u64 (y : Int)] w fun e w' => e = .returned (.int .i64 (Ky.cmp x y)) ∧ w' = w := by
  unfold Ky.cmp
  rcases (show x < y ∨ y < x ∨ x = y by omega) with h | h | h
  · have h1 : (x : Int) < (y : Int) := by omega
    rw [if_pos h]
    go_enter Tryd.func11, Tryd.ntmps11
    go_wp2_with fail
    refine (isNaN_u64 _ _).mono ?_
    rintro _ w1 ⟨rfl, rfl⟩
    go_wp2_with fail
    refine (isNaN_u64 _ _).mono ?_
    rintro _ w1 ⟨rfl, rfl⟩
    go_wp2
    go_ret
    exact ⟨rfl, rfl⟩
  · have h1 : ((x : Int) < (y : Int)) = False := by simp; omega
    have h2 : (y : Int) < (x : Int) := by omega
    rw [if_neg (by omega), if_pos h]
    go_enter Tryd.func11, Tryd.ntmps11
    go_wp2_with fail
    refine (isNaN_u64 _ _).mono ?_
    rintro _ w1 ⟨rfl, rfl⟩
    go_wp2_with fail
    refine (isNaN_u64 _ _).mono ?_
    rintro _ w1 ⟨rfl, rfl⟩
    go_wp2
    go_ret
    exact ⟨rfl, rfl⟩
  · subst h
    rw [if_neg (by omega), if_neg (by omega)]
    go_enter Tryd.func11, Tryd.ntmps11
    go_wp2_with fail
    refine (isNaN_u64 _ _).mono ?_
    rintro _ w1 ⟨rfl, rfl⟩
    go_wp2_with fail
    refine (isNaN_u64 _ _).mono ?_
    rintro _ w1 ⟨rfl, rfl⟩
    go_wp2
    go_ret
    exact ⟨rfl, rfl⟩
theorem pack_key (k : K) (hk : k.ok) (w : World) : Calls Tryd.prog 7 #[k.val] w fun r w' => r = .returned (.int .u64 ((k.num : Nat) : Int)) ∧ Below w.heap.size w w' := pack_any k.a k.e k.p hk.1 hk.2.1 hk.2.2 w
theorem unpack_key (k : K) (hk : k.ok) (w : World) : Calls Tryd.prog 6 #[.int .u64 ((k.num : Nat) : Int)] w fun r w' => r = .returned k.val ∧ Below w.heap.size w w' := by
  unfold K.ok at hk
  have h := unpack_any ((k.num : Nat) : Int) (by unfold K.num; omega) w
  rw [show ((k.num : Nat) : Int) / 4294967296 = (k.a : Int) by unfold K.num; omega, show ((k.num : Nat) : Int) / 65536 % 65536 = (k.e : Int) by unfold K.num; omega, show ((k.num : Nat) : Int) % 65536 = (k.p : Int) by unfold K.num; omega] at h
  exact h
set_option maxHeartbeats 1000000 in
theorem compare_any (x y : K) (hx : x.ok) (hy : y.ok) (w : World) : Calls Tryd.prog 9 #[x.val, y.val] w fun r w' => r = .returned (.int .i64 (Ky.cmp x.num y.num)) ∧ Below w.heap.size w w' := by
  have PX := Lib.hid (pack_key x hx)
  have PY := Lib.hid (pack_key y hy)
  have CM := Lib.hid (cmp_u64 x.num y.num)
  unfold K.val at *
  generalize Ky.cmp x.num y.num = c at *
  generalize ((x.num : Nat) : Int) = nx at *
  generalize ((y.num : Nat) : Int) = ny at *
  go_enter Tryd.func9, Tryd.ntmps9
  go_wp2_with fail
  have RA := (Row.new w #[.int .u32 (x.a : Int), .int .u16 (x.e : Int), .int .u16 (x.p : Int)] 27).alloc (.cells #[.int .u32 (y.a : Int), .int .u16 (y.e : Int), .int .u16 (y.p : Int)] 27)
  have RB := Row.new' (w.alloc (.cells #[.int .u32 (x.a : Int), .int .u16 (x.e : Int), .int .u16 (x.p : Int)] 27)) #[.int .u32 (y.a : Int), .int .u16 (y.e : Int), .int .u16 (y.p : Int)] 27 (g := w.heap.size + 1) (by simp)
  have hB := below_alloc (below_alloc (Below.refl _ w) (.cells #[.int .u32 (x.a : Int), .int .u16 (x.e : Int), .int .u16 (x.p : Int)] 27)) (.cells #[.int .u32 (y.a : Int), .int .u16 (y.e : Int), .int .u16 (y.p : Int)] 27)
  generalize (w.alloc (.cells #[.int .u32 (x.a : Int), .int .u16 (x.e : Int), .int .u16 (x.p : Int)] 27)).alloc (.cells #[.int .u32 (y.a : Int), .int .u16 (y.e : Int), .int .u16 (y.p : Int)] 27) = w2 at *
  obtain ⟨g, hg⟩ : ∃ g, g = w.heap.size := ⟨_, rfl⟩
  obtain ⟨g', hg'⟩ : ∃ g', g' = w.heap.size + 1 := ⟨_, rfl⟩
  rw [← hg] at RA
  rw [← hg'] at RB
  rw [← hg', ← hg]
  have a0 : w2.cell? ⟨g, 0, none⟩ = some (.int .u32 (x.a : Int)) := RA.cell 0
  have a1 : w2.cell? ⟨g, 1, none⟩ = some (.int .u16 (x.e : Int)) := RA.cell 1
  have a2 : w2.cell? ⟨g, 2, none⟩ = some (.int .u16 (x.p : Int)) := RA.cell 2
  have b0 : w2.cell? ⟨g', 0, none⟩ = some (.int .u32 (y.a : Int)) := RB.cell 0
  have b1 : w2.cell? ⟨g', 1, none⟩ = some (.int .u16 (y.e : Int)) := RB.cell 1
  have b2 : w2.cell? ⟨g', 2, none⟩ = some (.int .u16 (y.p : Int)) := RB.cell 2
  clear RA RB hg hg'
  go_region_held3 (fun w' => Below w.heap.size w w' ∧ w'.cell? ⟨g, 0, none⟩ = some (.int .u32 (x.a : Int)) ∧ w'.cell? ⟨g, 1, none⟩ = some (.int .u16 (x.e : Int)) ∧ w'.cell? ⟨g, 2, none⟩ = some (.int .u16 (x.p : Int)) ∧ w'.cell? ⟨g', 0, none⟩ = some (.int .u32 (y.a : Int)) ∧ w'.cell? ⟨g', 1, none⟩ = some (.int .u16 (y.e : Int)) ∧ w'.cell? ⟨g', 2, none⟩ = some (.int .u16 (y.p : Int))) (refine ⟨?_, ?_, ?_, ?_, ?_, ?_, ?_⟩ <;> first | assumption | exact below_dr hB | exact a0 | exact a1 | exact a2 | exact b0 | exact b1 | exact b2 | simp [go_sem, *]) (first | (go_at_call 7; rename_i hHeld _ _; ((with_reducible refine (PX.out _).mono ?_)); rintro e wx ⟨rfl, hb⟩; have HB := below_then hHeld.1 hb; have HC1 := cell_then hHeld.2.1 hb; have HC2 := cell_then hHeld.2.2.1 hb; have HC3 := cell_then hHeld.2.2.2.1 hb; have HC4 := cell_then hHeld.2.2.2.2.1 hb; have HC5 := cell_then hHeld.2.2.2.2.2.1 hb; have HC6 := cell_then hHeld.2.2.2.2.2.2 hb; clear hb hHeld) | (go_at_call 7; rename_i hHeld _ _; ((with_reducible refine (PY.out _).mono ?_)); rintro e wx ⟨rfl, hb⟩; have HB := below_then hHeld.1 hb; have HC1 := cell_then hHeld.2.1 hb; have HC2 := cell_then hHeld.2.2.1 hb; have HC3 := cell_then hHeld.2.2.2.1 hb; have HC4 := cell_then hHeld.2.2.2.2.1 hb; have HC5 := cell_then hHeld.2.2.2.2.2.1 hb; have HC6 := cell_then hHeld.2.2.2.2.2.2 hb; clear hb hHeld) | (go_at_call 11; rename_i hHeld _ _; ((with_reducible refine (CM.out _).mono ?_)); rintro e wx ⟨rfl, rfl⟩))
  rename_i hHeld
  have BB := hHeld.1
  clear hHeld
  go_wp2
  go_ret
  exact ⟨rfl, BB⟩
set_option maxHeartbeats 1000000 in
theorem less_any (x y : K) (hx : x.ok) (hy : y.ok) (w : World) : Calls Tryd.prog 8 #[x.val, y.val] w fun r w' => r = .returned (.bool (decide (x.num < y.num))) ∧ Below w.heap.size w w' := by
  have L := Lib.hid (less_num x y hx hy)
  unfold K.val
  have hB := below_alloc (below_alloc (Below.refl _ w) (.cells #[.int .u32 (x.a : Int), .int .u16 (x.e : Int), .int .u16 (x.p : Int)] 27)) (.cells #[.int .u32 (y.a : Int), .int .u16 (y.e : Int), .int .u16 (y.p : Int)] 27)
  rcases (show ¬ x.a = y.a ∨ (x.a = y.a ∧ ¬ x.e = y.e) ∨ (x.a = y.a ∧ x.e = y.e) by omega) with h | ⟨h, h2⟩ | ⟨h, h2⟩
  · have q1 : ((x.a : Int) != (y.a : Int)) = true := by rw [bne_iff_ne]; omega
    have R : decide (x.num < y.num) = decide ((x.a : Int) < (y.a : Int)) := by rw [decide_eq_decide, L.out]; omega
    rw [R]
    clear R L
    go_enter Tryd.func8, Tryd.ntmps8
    go_wp2
    go_ret
    exact ⟨ret_bool (by simp), hB⟩
  · have q1 : ((x.a : Int) != (y.a : Int)) = false := by rw [h]; simp
    have q2 : ((x.e : Int) != (y.e : Int)) = true := by rw [bne_iff_ne]; omega
    have R : decide (x.num < y.num) = decide ((x.e : Int) < (y.e : Int)) := by rw [decide_eq_decide, L.out]; omega
    rw [R]
    clear R L h
    go_enter Tryd.func8, Tryd.ntmps8
    go_wp2
    go_ret
    exact ⟨ret_bool (by simp), hB⟩
  · have q1 : ((x.a : Int) != (y.a : Int)) = false := by rw [h]; simp
    have q2 : ((x.e : Int) != (y.e : Int)) = false := by rw [h2]; simp
    have R : decide (x.num < y.num) = decide ((x.p : Int) < (y.p : Int)) := by rw [decide_eq_decide, L.out]; omega
    rw [R]
    clear R L h h2
    go_enter Tryd.func8, Tryd.ntmps8
    go_wp2
    go_ret
    exact ⟨ret_bool (by simp), hB⟩

set_option maxHeartbeats 4000000 in
theorem keyPacks_any (x y : K) (hx : x.ok) (hy : y.ok) (s : Nat) (w : World) (hM : Glb5 w) :
    Calls Tryd.prog 4 #[x.val, y.val, .int .u8 (s : Int)] w fun e w' => e = .returned (.bool true) ∧ Below w.heap.size w w' := by
  obtain ⟨y1, hy1⟩ : ∃ y1 : K, y1 = ⟨if 0 < s % 3 then x.a else y.a, if 1 < s % 3 then x.e else y.e, y.p⟩ := ⟨_, rfl⟩
  have hy1o : y1.ok := by
    rw [hy1]
    unfold K.ok at *
    refine ⟨?_, ?_, hy.2.2⟩
    · dsimp only; split; exact hx.1; exact hy.1
    · dsimp only; split; exact hx.2.1; exact hy.2.1
  have PX := Lib.hid (pack_key x hx)
  have UX := Lib.hid (unpack_key x hx)
  have CC := Lib.hid (compare_any x y1 hx hy1o)
  have LX := Lib.hid (less_any x y1 hx hy1o)
  have LY := Lib.hid (less_any y1 x hy1o hx)
  have hB := below_alloc (below_alloc (Below.refl _ w) (.cells #[.int .u32 (x.a : Int), .int .u16 (x.e : Int), .int .u16 (x.p : Int)] 27)) (.cells #[.int .u32 (y.a : Int), .int .u16 (y.e : Int), .int .u16 (y.p : Int)] 27)
  have RA := (Row.new w #[.int .u32 (x.a : Int), .int .u16 (x.e : Int), .int .u16 (x.p : Int)] 27).alloc (.cells #[.int .u32 (y.a : Int), .int .u16 (y.e : Int), .int .u16 (y.p : Int)] 27)
  have RB := Row.new' (w.alloc (.cells #[.int .u32 (x.a : Int), .int .u16 (x.e : Int), .int .u16 (x.p : Int)] 27)) #[.int .u32 (y.a : Int), .int .u16 (y.e : Int), .int .u16 (y.p : Int)] 27 (g := w.heap.size + 1) (by simp)
  have ca : IntKind.u64.wrap (x.a : Int) = (x.a : Int) := by unfold K.ok at hx; rw [IntKind.wrap_u64]; omega
  have ce : IntKind.u64.wrap (x.e : Int) = (x.e : Int) := by unfold K.ok at hx; rw [IntKind.wrap_u64]; omega
  have cp : IntKind.u64.wrap (x.p : Int) = (x.p : Int) := by unfold K.ok at hx; rw [IntKind.wrap_u64]; omega
  obtain ⟨u1, e1⟩ : ∃ u, IntKind.u64.wrap ((x.a : Int) * 4294967296) = u := ⟨_, rfl⟩
  obtain ⟨u2, e2⟩ : ∃ u, IntKind.u64.wrap ((x.e : Int) * 65536) = u := ⟨_, rfl⟩
  obtain ⟨u3, e3⟩ : ∃ u, IntKind.u64.wrap (u1 + u2) = u := ⟨_, rfl⟩
  have e4 : IntKind.u64.wrap (u3 + (x.p : Int)) = ((x.num : Nat) : Int) := by
    unfold K.ok at hx
    rw [← e3, ← e1, ← e2]
    simp only [IntKind.wrap_u64]
    unfold K.num
    omega
  unfold K.val at *
  generalize ((x.num : Nat) : Int) = nx at *
  go_enter Tryd.func4, Tryd.ntmps4
  go_wp2_with fail
  generalize (w.alloc (.cells #[.int .u32 (x.a : Int), .int .u16 (x.e : Int), .int .u16 (x.p : Int)] 27)).alloc (.cells #[.int .u32 (y.a : Int), .int .u16 (y.e : Int), .int .u16 (y.p : Int)] 27) = w0 at *
  refine (awake5 _ (hM.below hB)).mono ?_
  rintro _ w1 ⟨rfl, hb1⟩
  replace hB := below_then hB hb1
  replace RA := RA.below hb1
  replace RB := RB.below hb1
  obtain ⟨g, hg⟩ : ∃ g, g = w.heap.size := ⟨_, rfl⟩
  obtain ⟨g', hg'⟩ : ∃ g', g' = w.heap.size + 1 := ⟨_, rfl⟩
  rw [← hg] at RA
  rw [← hg'] at RB
  rw [← hg', ← hg]
  have hn1 : g ≠ g' := by omega
  have hn2 : g' ≠ g := by omega
  have hgw : w.heap.size ≤ g' := by omega
  clear hg hg' hb1 hM
  rcases (show s % 3 = 0 ∨ s % 3 = 1 ∨ s % 3 = 2 by omega) with hr | hr | hr
  · have hz : (s : Int) % 3 = 0 := by omega
    rw [hr] at hy1
    simp at hy1
    have a0 : w1.cell? ⟨g, 0, none⟩ = some (.int .u32 (x.a : Int)) := RA.cell 0
    have a1 : w1.cell? ⟨g, 1, none⟩ = some (.int .u16 (x.e : Int)) := RA.cell 1
    have a2 : w1.cell? ⟨g, 2, none⟩ = some (.int .u16 (x.p : Int)) := RA.cell 2
    have b0 : w1.cell? ⟨g', 0, none⟩ = some (.int .u32 (y.a : Int)) := RB.cell 0
    have b1 : w1.cell? ⟨g', 1, none⟩ = some (.int .u16 (y.e : Int)) := RB.cell 1
    have f0 := RB.frozen 0
    have f1 := RB.frozen 1
    have Y1 : y1.a = y.a ∧ y1.e = y.e ∧ y1.p = y.p := by rw [hy1]; exact ⟨rfl, rfl, rfl⟩
    clear hy1 hr
    go_wp2_with fail
    refine (PX.out _).mono ?_
    rintro _ w2 ⟨rfl, hb2⟩
    replace RA := RA.below hb2
    replace hB := below_then hB hb2
    have RB2 : Row w2 g' #[.int .u32 (y1.a : Int), .int .u16 (y1.e : Int), .int .u16 (y1.p : Int)] 27 := by
      rw [Y1.1, Y1.2.1, Y1.2.2]
      exact RB.below hb2
    clear RB
    have RB := RB2
    clear RB2 PX a0 a1 a2 b0 b1 f0 f1 hb2 Y1 hz
    have a0 : w2.cell? ⟨g, 0, none⟩ = some (.int .u32 (x.a : Int)) := RA.cell 0
    have a1 : w2.cell? ⟨g, 1, none⟩ = some (.int .u16 (x.e : Int)) := RA.cell 1
    have a2 : w2.cell? ⟨g, 2, none⟩ = some (.int .u16 (x.p : Int)) := RA.cell 2
    have b0 : w2.cell? ⟨g', 0, none⟩ = some (.int .u32 (y1.a : Int)) := RB.cell 0
    have b1 : w2.cell? ⟨g', 1, none⟩ = some (.int .u16 (y1.e : Int)) := RB.cell 1
    have b2 : w2.cell? ⟨g', 2, none⟩ = some (.int .u16 (y1.p : Int)) := RB.cell 2
    rcases (show x.num < y1.num ∨ y1.num < x.num ∨ x.num = y1.num by omega) with h | h | h
    · rw [show Ky.cmp x.num y1.num = -1 by unfold Ky.cmp; rw [if_pos h]] at CC
      rw [decide_eq_true h] at LX
      clear h LY
      go_wp2_with fail
      refine (LX.out _).mono ?_
      rintro _ w3 ⟨rfl, hb3⟩
      replace hB := below_then hB hb3
      replace RA := RA.below hb3
      replace RB := RB.below hb3
      clear hb3 a0 a1 a2 b0 b1 b2 LX
      have a0 : w3.cell? ⟨g, 0, none⟩ = some (.int .u32 (x.a : Int)) := RA.cell 0
      have a1 : w3.cell? ⟨g, 1, none⟩ = some (.int .u16 (x.e : Int)) := RA.cell 1
      have a2 : w3.cell? ⟨g, 2, none⟩ = some (.int .u16 (x.p : Int)) := RA.cell 2
      have b0 : w3.cell? ⟨g', 0, none⟩ = some (.int .u32 (y1.a : Int)) := RB.cell 0
      have b1 : w3.cell? ⟨g', 1, none⟩ = some (.int .u16 (y1.e : Int)) := RB.cell 1
      have b2 : w3.cell? ⟨g', 2, none⟩ = some (.int .u16 (y1.p : Int)) := RB.cell 2
      go_wp2_with fail
      go_region_held3 (fun w' => Below w.heap.size w w' ∧ w'.cell? ⟨g, 0, none⟩ = some (.int .u32 (x.a : Int)) ∧ w'.cell? ⟨g, 1, none⟩ = some (.int .u16 (x.e : Int)) ∧ w'.cell? ⟨g, 2, none⟩ = some (.int .u16 (x.p : Int)) ∧ w'.cell? ⟨g', 0, none⟩ = some (.int .u32 (y1.a : Int)) ∧ w'.cell? ⟨g', 1, none⟩ = some (.int .u16 (y1.e : Int)) ∧ w'.cell? ⟨g', 2, none⟩ = some (.int .u16 (y1.p : Int))) (refine ⟨?_, ?_, ?_, ?_, ?_, ?_, ?_⟩ <;> first | assumption | exact below_dr hB | exact a0 | exact a1 | exact a2 | exact b0 | exact b1 | exact b2 | simp [go_sem, *]) (first | (go_at_call 6; rename_i hHeld _ _; ((with_reducible refine (UX.out _).mono ?_)); rintro e wx ⟨rfl, hb⟩; have HB := below_then hHeld.1 hb; have HC1 := cell_then hHeld.2.1 hb; have HC2 := cell_then hHeld.2.2.1 hb; have HC3 := cell_then hHeld.2.2.2.1 hb; have HC4 := cell_then hHeld.2.2.2.2.1 hb; have HC5 := cell_then hHeld.2.2.2.2.2.1 hb; have HC6 := cell_then hHeld.2.2.2.2.2.2 hb; clear hb hHeld) | (go_at_call 9; rename_i hHeld _ _; ((with_reducible refine (CC.out _).mono ?_)); rintro e wx ⟨rfl, hb⟩; have HB := below_then hHeld.1 hb; have HC1 := cell_then hHeld.2.1 hb; have HC2 := cell_then hHeld.2.2.1 hb; have HC3 := cell_then hHeld.2.2.2.1 hb; have HC4 := cell_then hHeld.2.2.2.2.1 hb; have HC5 := cell_then hHeld.2.2.2.2.2.1 hb; have HC6 := cell_then hHeld.2.2.2.2.2.2 hb; clear hb hHeld))
      rename_i hHeld
      have BB := hHeld.1
      clear hHeld
      go_wp2
      go_ret
      exact ⟨rfl, BB⟩
    · rw [show Ky.cmp x.num y1.num = 1 by unfold Ky.cmp; rw [if_neg (by omega), if_pos h]] at CC
      rw [decide_eq_false (by omega)] at LX
      rw [decide_eq_true h] at LY
      clear h
      go_wp2_with fail
      refine (LX.out _).mono ?_
      rintro _ w3 ⟨rfl, hb3⟩
      replace hB := below_then hB hb3
      replace RA := RA.below hb3
      replace RB := RB.below hb3
      clear hb3 a0 a1 a2 b0 b1 b2 LX
      have a0 : w3.cell? ⟨g, 0, none⟩ = some (.int .u32 (x.a : Int)) := RA.cell 0
      have a1 : w3.cell? ⟨g, 1, none⟩ = some (.int .u16 (x.e : Int)) := RA.cell 1
      have a2 : w3.cell? ⟨g, 2, none⟩ = some (.int .u16 (x.p : Int)) := RA.cell 2
      have b0 : w3.cell? ⟨g', 0, none⟩ = some (.int .u32 (y1.a : Int)) := RB.cell 0
      have b1 : w3.cell? ⟨g', 1, none⟩ = some (.int .u16 (y1.e : Int)) := RB.cell 1
      have b2 : w3.cell? ⟨g', 2, none⟩ = some (.int .u16 (y1.p : Int)) := RB.cell 2
      go_wp2_with fail
      refine (LY.out _).mono ?_
      rintro _ w4 ⟨rfl, hb3⟩
      replace hB := below_then hB hb3
      replace RA := RA.below hb3
      replace RB := RB.below hb3
      clear hb3 a0 a1 a2 b0 b1 b2 LY
      have a0 : w4.cell? ⟨g, 0, none⟩ = some (.int .u32 (x.a : Int)) := RA.cell 0
      have a1 : w4.cell? ⟨g, 1, none⟩ = some (.int .u16 (x.e : Int)) := RA.cell 1
      have a2 : w4.cell? ⟨g, 2, none⟩ = some (.int .u16 (x.p : Int)) := RA.cell 2
      have b0 : w4.cell? ⟨g', 0, none⟩ = some (.int .u32 (y1.a : Int)) := RB.cell 0
      have b1 : w4.cell? ⟨g', 1, none⟩ = some (.int .u16 (y1.e : Int)) := RB.cell 1
      have b2 : w4.cell? ⟨g', 2, none⟩ = some (.int .u16 (y1.p : Int)) := RB.cell 2
      go_wp2_with fail
      go_region_held3 (fun w' => Below w.heap.size w w' ∧ w'.cell? ⟨g, 0, none⟩ = some (.int .u32 (x.a : Int)) ∧ w'.cell? ⟨g, 1, none⟩ = some (.int .u16 (x.e : Int)) ∧ w'.cell? ⟨g, 2, none⟩ = some (.int .u16 (x.p : Int)) ∧ w'.cell? ⟨g', 0, none⟩ = some (.int .u32 (y1.a : Int)) ∧ w'.cell? ⟨g', 1, none⟩ = some (.int .u16 (y1.e : Int)) ∧ w'.cell? ⟨g', 2, none⟩ = some (.int .u16 (y1.p : Int))) (refine ⟨?_, ?_, ?_, ?_, ?_, ?_, ?_⟩ <;> first | assumption | exact below_dr hB | exact a0 | exact a1 | exact a2 | exact b0 | exact b1 | exact b2 | simp [go_sem, *]) (first | (go_at_call 6; rename_i hHeld _ _; ((with_reducible refine (UX.out _).mono ?_)); rintro e wx ⟨rfl, hb⟩; have HB := below_then hHeld.1 hb; have HC1 := cell_then hHeld.2.1 hb; have HC2 := cell_then hHeld.2.2.1 hb; have HC3 := cell_then hHeld.2.2.2.1 hb; have HC4 := cell_then hHeld.2.2.2.2.1 hb; have HC5 := cell_then hHeld.2.2.2.2.2.1 hb; have HC6 := cell_then hHeld.2.2.2.2.2.2 hb; clear hb hHeld) | (go_at_call 9; rename_i hHeld _ _; ((with_reducible refine (CC.out _).mono ?_)); rintro e wx ⟨rfl, hb⟩; have HB := below_then hHeld.1 hb; have HC1 := cell_then hHeld.2.1 hb; have HC2 := cell_then hHeld.2.2.1 hb; have HC3 := cell_then hHeld.2.2.2.1 hb; have HC4 := cell_then hHeld.2.2.2.2.1 hb; have HC5 := cell_then hHeld.2.2.2.2.2.1 hb; have HC6 := cell_then hHeld.2.2.2.2.2.2 hb; clear hb hHeld))
      rename_i hHeld
      have BB := hHeld.1
      clear hHeld
      go_wp2
      go_ret
      exact ⟨rfl, BB⟩
    · rw [show Ky.cmp x.num y1.num = 0 by unfold Ky.cmp; rw [if_neg (by omega), if_neg (by omega)]] at CC
      rw [decide_eq_false (by omega)] at LX LY
      clear h
      go_wp2_with fail
      refine (LX.out _).mono ?_
      rintro _ w3 ⟨rfl, hb3⟩
      replace hB := below_then hB hb3
      replace RA := RA.below hb3
      replace RB := RB.below hb3
      clear hb3 a0 a1 a2 b0 b1 b2 LX
      have a0 : w3.cell? ⟨g, 0, none⟩ = some (.int .u32 (x.a : Int)) := RA.cell 0
      have a1 : w3.cell? ⟨g, 1, none⟩ = some (.int .u16 (x.e : Int)) := RA.cell 1
      have a2 : w3.cell? ⟨g, 2, none⟩ = some (.int .u16 (x.p : Int)) := RA.cell 2
      have b0 : w3.cell? ⟨g', 0, none⟩ = some (.int .u32 (y1.a : Int)) := RB.cell 0
      have b1 : w3.cell? ⟨g', 1, none⟩ = some (.int .u16 (y1.e : Int)) := RB.cell 1
      have b2 : w3.cell? ⟨g', 2, none⟩ = some (.int .u16 (y1.p : Int)) := RB.cell 2
      go_wp2_with fail
      refine (LY.out _).mono ?_
      rintro _ w4 ⟨rfl, hb3⟩
      replace hB := below_then hB hb3
      replace RA := RA.below hb3
      replace RB := RB.below hb3
      clear hb3 a0 a1 a2 b0 b1 b2 LY
      have a0 : w4.cell? ⟨g, 0, none⟩ = some (.int .u32 (x.a : Int)) := RA.cell 0
      have a1 : w4.cell? ⟨g, 1, none⟩ = some (.int .u16 (x.e : Int)) := RA.cell 1
      have a2 : w4.cell? ⟨g, 2, none⟩ = some (.int .u16 (x.p : Int)) := RA.cell 2
      have b0 : w4.cell? ⟨g', 0, none⟩ = some (.int .u32 (y1.a : Int)) := RB.cell 0
      have b1 : w4.cell? ⟨g', 1, none⟩ = some (.int .u16 (y1.e : Int)) := RB.cell 1
      have b2 : w4.cell? ⟨g', 2, none⟩ = some (.int .u16 (y1.p : Int)) := RB.cell 2
      go_wp2_with fail
      go_region_held3 (fun w' => Below w.heap.size w w' ∧ w'.cell? ⟨g, 0, none⟩ = some (.int .u32 (x.a : Int)) ∧ w'.cell? ⟨g, 1, none⟩ = some (.int .u16 (x.e : Int)) ∧ w'.cell? ⟨g, 2, none⟩ = some (.int .u16 (x.p : Int)) ∧ w'.cell? ⟨g', 0, none⟩ = some (.int .u32 (y1.a : Int)) ∧ w'.cell? ⟨g', 1, none⟩ = some (.int .u16 (y1.e : Int)) ∧ w'.cell? ⟨g', 2, none⟩ = some (.int .u16 (y1.p : Int))) (refine ⟨?_, ?_, ?_, ?_, ?_, ?_, ?_⟩ <;> first | assumption | exact below_dr hB | exact a0 | exact a1 | exact a2 | exact b0 | exact b1 | exact b2 | simp [go_sem, *]) (first | (go_at_call 6; rename_i hHeld _ _; ((with_reducible refine (UX.out _).mono ?_)); rintro e wx ⟨rfl, hb⟩; have HB := below_then hHeld.1 hb; have HC1 := cell_then hHeld.2.1 hb; have HC2 := cell_then hHeld.2.2.1 hb; have HC3 := cell_then hHeld.2.2.2.1 hb; have HC4 := cell_then hHeld.2.2.2.2.1 hb; have HC5 := cell_then hHeld.2.2.2.2.2.1 hb; have HC6 := cell_then hHeld.2.2.2.2.2.2 hb; clear hb hHeld) | (go_at_call 9; rename_i hHeld _ _; ((with_reducible refine (CC.out _).mono ?_)); rintro e wx ⟨rfl, hb⟩; have HB := below_then hHeld.1 hb; have HC1 := cell_then hHeld.2.1 hb; have HC2 := cell_then hHeld.2.2.1 hb; have HC3 := cell_then hHeld.2.2.2.1 hb; have HC4 := cell_then hHeld.2.2.2.2.1 hb; have HC5 := cell_then hHeld.2.2.2.2.2.1 hb; have HC6 := cell_then hHeld.2.2.2.2.2.2 hb; clear hb hHeld))
      rename_i hHeld
      have BB := hHeld.1
      clear hHeld
      go_wp2
      go_ret
      exact ⟨rfl, BB⟩
  · have hz : (s : Int) % 3 = 1 := by omega
    rw [hr] at hy1
    simp at hy1
    have a0 : w1.cell? ⟨g, 0, none⟩ = some (.int .u32 (x.a : Int)) := RA.cell 0
    have a1 : w1.cell? ⟨g, 1, none⟩ = some (.int .u16 (x.e : Int)) := RA.cell 1
    have a2 : w1.cell? ⟨g, 2, none⟩ = some (.int .u16 (x.p : Int)) := RA.cell 2
    have b0 : w1.cell? ⟨g', 0, none⟩ = some (.int .u32 (y.a : Int)) := RB.cell 0
    have b1 : w1.cell? ⟨g', 1, none⟩ = some (.int .u16 (y.e : Int)) := RB.cell 1
    have f0 := RB.frozen 0
    have f1 := RB.frozen 1
    have Y1 : y1.a = x.a ∧ y1.e = y.e ∧ y1.p = y.p := by rw [hy1]; exact ⟨rfl, rfl, rfl⟩
    replace RA := RA.other ⟨g', 0, none⟩ hn1 (.int .u32 (x.a : Int))
    replace RB := RB.set 0 (.int .u32 (x.a : Int))
    replace hB := below_set hB hgw 0 (.int .u32 (x.a : Int))
    clear hy1 hr
    go_wp2_with fail
    refine (PX.out _).mono ?_
    rintro _ w2 ⟨rfl, hb2⟩
    replace RA := RA.below hb2
    replace hB := below_then hB hb2
    have RB2 : Row w2 g' #[.int .u32 (y1.a : Int), .int .u16 (y1.e : Int), .int .u16 (y1.p : Int)] 27 := by
      rw [Y1.1, Y1.2.1, Y1.2.2]
      exact RB.below hb2
    clear RB
    have RB := RB2
    clear RB2 PX a0 a1 a2 b0 b1 f0 f1 hb2 Y1 hz
    have a0 : w2.cell? ⟨g, 0, none⟩ = some (.int .u32 (x.a : Int)) := RA.cell 0
    have a1 : w2.cell? ⟨g, 1, none⟩ = some (.int .u16 (x.e : Int)) := RA.cell 1
    have a2 : w2.cell? ⟨g, 2, none⟩ = some (.int .u16 (x.p : Int)) := RA.cell 2
    have b0 : w2.cell? ⟨g', 0, none⟩ = some (.int .u32 (y1.a : Int)) := RB.cell 0
    have b1 : w2.cell? ⟨g', 1, none⟩ = some (.int .u16 (y1.e : Int)) := RB.cell 1
    have b2 : w2.cell? ⟨g', 2, none⟩ = some (.int .u16 (y1.p : Int)) := RB.cell 2
    rcases (show x.num < y1.num ∨ y1.num < x.num ∨ x.num = y1.num by omega) with h | h | h
    · rw [show Ky.cmp x.num y1.num = -1 by unfold Ky.cmp; rw [if_pos h]] at CC
      rw [decide_eq_true h] at LX
      clear h LY
      go_wp2_with fail
      refine (LX.out _).mono ?_
      rintro _ w3 ⟨rfl, hb3⟩
      replace hB := below_then hB hb3
      replace RA := RA.below hb3
      replace RB := RB.below hb3
      clear hb3 a0 a1 a2 b0 b1 b2 LX
      have a0 : w3.cell? ⟨g, 0, none⟩ = some (.int .u32 (x.a : Int)) := RA.cell 0
      have a1 : w3.cell? ⟨g, 1, none⟩ = some (.int .u16 (x.e : Int)) := RA.cell 1
      have a2 : w3.cell? ⟨g, 2, none⟩ = some (.int .u16 (x.p : Int)) := RA.cell 2
      have b0 : w3.cell? ⟨g', 0, none⟩ = some (.int .u32 (y1.a : Int)) := RB.cell 0
      have b1 : w3.cell? ⟨g', 1, none⟩ = some (.int .u16 (y1.e : Int)) := RB.cell 1
      have b2 : w3.cell? ⟨g', 2, none⟩ = some (.int .u16 (y1.p : Int)) := RB.cell 2
      go_wp2_with fail
      go_region_held3 (fun w' => Below w.heap.size w w' ∧ w'.cell? ⟨g, 0, none⟩ = some (.int .u32 (x.a : Int)) ∧ w'.cell? ⟨g, 1, none⟩ = some (.int .u16 (x.e : Int)) ∧ w'.cell? ⟨g, 2, none⟩ = some (.int .u16 (x.p : Int)) ∧ w'.cell? ⟨g', 0, none⟩ = some (.int .u32 (y1.a : Int)) ∧ w'.cell? ⟨g', 1, none⟩ = some (.int .u16 (y1.e : Int)) ∧ w'.cell? ⟨g', 2, none⟩ = some (.int .u16 (y1.p : Int))) (refine ⟨?_, ?_, ?_, ?_, ?_, ?_, ?_⟩ <;> first | assumption | exact below_dr hB | exact a0 | exact a1 | exact a2 | exact b0 | exact b1 | exact b2 | simp [go_sem, *]) (first | (go_at_call 6; rename_i hHeld _ _; ((with_reducible refine (UX.out _).mono ?_)); rintro e wx ⟨rfl, hb⟩; have HB := below_then hHeld.1 hb; have HC1 := cell_then hHeld.2.1 hb; have HC2 := cell_then hHeld.2.2.1 hb; have HC3 := cell_then hHeld.2.2.2.1 hb; have HC4 := cell_then hHeld.2.2.2.2.1 hb; have HC5 := cell_then hHeld.2.2.2.2.2.1 hb; have HC6 := cell_then hHeld.2.2.2.2.2.2 hb; clear hb hHeld) | (go_at_call 9; rename_i hHeld _ _; ((with_reducible refine (CC.out _).mono ?_)); rintro e wx ⟨rfl, hb⟩; have HB := below_then hHeld.1 hb; have HC1 := cell_then hHeld.2.1 hb; have HC2 := cell_then hHeld.2.2.1 hb; have HC3 := cell_then hHeld.2.2.2.1 hb; have HC4 := cell_then hHeld.2.2.2.2.1 hb; have HC5 := cell_then hHeld.2.2.2.2.2.1 hb; have HC6 := cell_then hHeld.2.2.2.2.2.2 hb; clear hb hHeld))
      rename_i hHeld
      have BB := hHeld.1
      clear hHeld
      go_wp2
      go_ret
      exact ⟨rfl, BB⟩
    · rw [show Ky.cmp x.num y1.num = 1 by unfold Ky.cmp; rw [if_neg (by omega), if_pos h]] at CC
      rw [decide_eq_false (by omega)] at LX
      rw [decide_eq_true h] at LY
      clear h
      go_wp2_with fail
      refine (LX.out _).mono ?_
      rintro _ w3 ⟨rfl, hb3⟩
      replace hB := below_then hB hb3
      replace RA := RA.below hb3
      replace RB := RB.below hb3
      clear hb3 a0 a1 a2 b0 b1 b2 LX
      have a0 : w3.cell? ⟨g, 0, none⟩ = some (.int .u32 (x.a : Int)) := RA.cell 0
      have a1 : w3.cell? ⟨g, 1, none⟩ = some (.int .u16 (x.e : Int)) := RA.cell 1
      have a2 : w3.cell? ⟨g, 2, none⟩ = some (.int .u16 (x.p : Int)) := RA.cell 2
      have b0 : w3.cell? ⟨g', 0, none⟩ = some (.int .u32 (y1.a : Int)) := RB.cell 0
      have b1 : w3.cell? ⟨g', 1, none⟩ = some (.int .u16 (y1.e : Int)) := RB.cell 1
      have b2 : w3.cell? ⟨g', 2, none⟩ = some (.int .u16 (y1.p : Int)) := RB.cell 2
      go_wp2_with fail
      refine (LY.out _).mono ?_
      rintro _ w4 ⟨rfl, hb3⟩
      replace hB := below_then hB hb3
      replace RA := RA.below hb3
      replace RB := RB.below hb3
      clear hb3 a0 a1 a2 b0 b1 b2 LY
      have a0 : w4.cell? ⟨g, 0, none⟩ = some (.int .u32 (x.a : Int)) := RA.cell 0
      have a1 : w4.cell? ⟨g, 1, none⟩ = some (.int .u16 (x.e : Int)) := RA.cell 1
      have a2 : w4.cell? ⟨g, 2, none⟩ = some (.int .u16 (x.p : Int)) := RA.cell 2
      have b0 : w4.cell? ⟨g', 0, none⟩ = some (.int .u32 (y1.a : Int)) := RB.cell 0
      have b1 : w4.cell? ⟨g', 1, none⟩ = some (.int .u16 (y1.e : Int)) := RB.cell 1
      have b2 : w4.cell? ⟨g', 2, none⟩ = some (.int .u16 (y1.p : Int)) := RB.cell 2
      go_wp2_with fail
      go_region_held3 (fun w' => Below w.heap.size w w' ∧ w'.cell? ⟨g, 0, none⟩ = some (.int .u32 (x.a : Int)) ∧ w'.cell? ⟨g, 1, none⟩ = some (.int .u16 (x.e : Int)) ∧ w'.cell? ⟨g, 2, none⟩ = some (.int .u16 (x.p : Int)) ∧ w'.cell? ⟨g', 0, none⟩ = some (.int .u32 (y1.a : Int)) ∧ w'.cell? ⟨g', 1, none⟩ = some (.int .u16 (y1.e : Int)) ∧ w'.cell? ⟨g', 2, none⟩ = some (.int .u16 (y1.p : Int))) (refine ⟨?_, ?_, ?_, ?_, ?_, ?_, ?_⟩ <;> first | assumption | exact below_dr hB | exact a0 | exact a1 | exact a2 | exact b0 | exact b1 | exact b2 | simp [go_sem, *]) (first | (go_at_call 6; rename_i hHeld _ _; ((with_reducible refine (UX.out _).mono ?_)); rintro e wx ⟨rfl, hb⟩; have HB := below_then hHeld.1 hb; have HC1 := cell_then hHeld.2.1 hb; have HC2 := cell_then hHeld.2.2.1 hb; have HC3 := cell_then hHeld.2.2.2.1 hb; have HC4 := cell_then hHeld.2.2.2.2.1 hb; have HC5 := cell_then hHeld.2.2.2.2.2.1 hb; have HC6 := cell_then hHeld.2.2.2.2.2.2 hb; clear hb hHeld) | (go_at_call 9; rename_i hHeld _ _; ((with_reducible refine (CC.out _).mono ?_)); rintro e wx ⟨rfl, hb⟩; have HB := below_then hHeld.1 hb; have HC1 := cell_then hHeld.2.1 hb; have HC2 := cell_then hHeld.2.2.1 hb; have HC3 := cell_then hHeld.2.2.2.1 hb; have HC4 := cell_then hHeld.2.2.2.2.1 hb; have HC5 := cell_then hHeld.2.2.2.2.2.1 hb; have HC6 := cell_then hHeld.2.2.2.2.2.2 hb; clear hb hHeld))
      rename_i hHeld
      have BB := hHeld.1
      clear hHeld
      go_wp2
      go_ret
      exact ⟨rfl, BB⟩
    · rw [show Ky.cmp x.num y1.num = 0 by unfold Ky.cmp; rw [if_neg (by omega), if_neg (by omega)]] at CC
      rw [decide_eq_false (by omega)] at LX LY
      clear h
      go_wp2_with fail
      refine (LX.out _).mono ?_
      rintro _ w3 ⟨rfl, hb3⟩
      replace hB := below_then hB hb3
      replace RA := RA.below hb3
      replace RB := RB.below hb3
      clear hb3 a0 a1 a2 b0 b1 b2 LX
      have a0 : w3.cell? ⟨g, 0, none⟩ = some (.int .u32 (x.a : Int)) := RA.cell 0
      have a1 : w3.cell? ⟨g, 1, none⟩ = some (.int .u16 (x.e : Int)) := RA.cell 1
      have a2 : w3.cell? ⟨g, 2, none⟩ = some (.int .u16 (x.p : Int)) := RA.cell 2
      have b0 : w3.cell? ⟨g', 0, none⟩ = some (.int .u32 (y1.a : Int)) := RB.cell 0
      have b1 : w3.cell? ⟨g', 1, none⟩ = some (.int .u16 (y1.e : Int)) := RB.cell 1
      have b2 : w3.cell? ⟨g', 2, none⟩ = some (.int .u16 (y1.p : Int)) := RB.cell 2
      go_wp2_with fail
      refine (LY.out _).mono ?_
      rintro _ w4 ⟨rfl, hb3⟩
      replace hB := below_then hB hb3
      replace RA := RA.below hb3
      replace RB := RB.below hb3
      clear hb3 a0 a1 a2 b0 b1 b2 LY
      have a0 : w4.cell? ⟨g, 0, none⟩ = some (.int .u32 (x.a : Int)) := RA.cell 0
      have a1 : w4.cell? ⟨g, 1, none⟩ = some (.int .u16 (x.e : Int)) := RA.cell 1
      have a2 : w4.cell? ⟨g, 2, none⟩ = some (.int .u16 (x.p : Int)) := RA.cell 2
      have b0 : w4.cell? ⟨g', 0, none⟩ = some (.int .u32 (y1.a : Int)) := RB.cell 0
      have b1 : w4.cell? ⟨g', 1, none⟩ = some (.int .u16 (y1.e : Int)) := RB.cell 1
      have b2 : w4.cell? ⟨g', 2, none⟩ = some (.int .u16 (y1.p : Int)) := RB.cell 2
      go_wp2_with fail
      go_region_held3 (fun w' => Below w.heap.size w w' ∧ w'.cell? ⟨g, 0, none⟩ = some (.int .u32 (x.a : Int)) ∧ w'.cell? ⟨g, 1, none⟩ = some (.int .u16 (x.e : Int)) ∧ w'.cell? ⟨g, 2, none⟩ = some (.int .u16 (x.p : Int)) ∧ w'.cell? ⟨g', 0, none⟩ = some (.int .u32 (y1.a : Int)) ∧ w'.cell? ⟨g', 1, none⟩ = some (.int .u16 (y1.e : Int)) ∧ w'.cell? ⟨g', 2, none⟩ = some (.int .u16 (y1.p : Int))) (refine ⟨?_, ?_, ?_, ?_, ?_, ?_, ?_⟩ <;> first | assumption | exact below_dr hB | exact a0 | exact a1 | exact a2 | exact b0 | exact b1 | exact b2 | simp [go_sem, *]) (first | (go_at_call 6; rename_i hHeld _ _; ((with_reducible refine (UX.out _).mono ?_)); rintro e wx ⟨rfl, hb⟩; have HB := below_then hHeld.1 hb; have HC1 := cell_then hHeld.2.1 hb; have HC2 := cell_then hHeld.2.2.1 hb; have HC3 := cell_then hHeld.2.2.2.1 hb; have HC4 := cell_then hHeld.2.2.2.2.1 hb; have HC5 := cell_then hHeld.2.2.2.2.2.1 hb; have HC6 := cell_then hHeld.2.2.2.2.2.2 hb; clear hb hHeld) | (go_at_call 9; rename_i hHeld _ _; ((with_reducible refine (CC.out _).mono ?_)); rintro e wx ⟨rfl, hb⟩; have HB := below_then hHeld.1 hb; have HC1 := cell_then hHeld.2.1 hb; have HC2 := cell_then hHeld.2.2.1 hb; have HC3 := cell_then hHeld.2.2.2.1 hb; have HC4 := cell_then hHeld.2.2.2.2.1 hb; have HC5 := cell_then hHeld.2.2.2.2.2.1 hb; have HC6 := cell_then hHeld.2.2.2.2.2.2 hb; clear hb hHeld))
      rename_i hHeld
      have BB := hHeld.1
      clear hHeld
      go_wp2
      go_ret
      exact ⟨rfl, BB⟩
  · have hz : (s : Int) % 3 = 2 := by omega
    rw [hr] at hy1
    simp at hy1
    have a0 : w1.cell? ⟨g, 0, none⟩ = some (.int .u32 (x.a : Int)) := RA.cell 0
    have a1 : w1.cell? ⟨g, 1, none⟩ = some (.int .u16 (x.e : Int)) := RA.cell 1
    have a2 : w1.cell? ⟨g, 2, none⟩ = some (.int .u16 (x.p : Int)) := RA.cell 2
    have b0 : w1.cell? ⟨g', 0, none⟩ = some (.int .u32 (y.a : Int)) := RB.cell 0
    have b1 : w1.cell? ⟨g', 1, none⟩ = some (.int .u16 (y.e : Int)) := RB.cell 1
    have f0 := RB.frozen 0
    have f1 := RB.frozen 1
    have Y1 : y1.a = x.a ∧ y1.e = x.e ∧ y1.p = y.p := by rw [hy1]; exact ⟨rfl, rfl, rfl⟩
    replace RA := RA.other ⟨g', 0, none⟩ hn1 (.int .u32 (x.a : Int))
    replace RB := RB.set 0 (.int .u32 (x.a : Int))
    replace hB := below_set hB hgw 0 (.int .u32 (x.a : Int))
    replace RA := RA.other ⟨g', 1, none⟩ hn1 (.int .u16 (x.e : Int))
    replace RB := RB.set 1 (.int .u16 (x.e : Int))
    replace hB := below_set hB hgw 1 (.int .u16 (x.e : Int))
    clear hy1 hr
    go_wp2_with fail
    refine (PX.out _).mono ?_
    rintro _ w2 ⟨rfl, hb2⟩
    replace RA := RA.below hb2
    replace hB := below_then hB hb2
    have RB2 : Row w2 g' #[.int .u32 (y1.a : Int), .int .u16 (y1.e : Int), .int .u16 (y1.p : Int)] 27 := by
      rw [Y1.1, Y1.2.1, Y1.2.2]
      exact RB.below hb2
    clear RB
    have RB := RB2
    clear RB2 PX a0 a1 a2 b0 b1 f0 f1 hb2 Y1 hz
    have a0 : w2.cell? ⟨g, 0, none⟩ = some (.int .u32 (x.a : Int)) := RA.cell 0
    have a1 : w2.cell? ⟨g, 1, none⟩ = some (.int .u16 (x.e : Int)) := RA.cell 1
    have a2 : w2.cell? ⟨g, 2, none⟩ = some (.int .u16 (x.p : Int)) := RA.cell 2
    have b0 : w2.cell? ⟨g', 0, none⟩ = some (.int .u32 (y1.a : Int)) := RB.cell 0
    have b1 : w2.cell? ⟨g', 1, none⟩ = some (.int .u16 (y1.e : Int)) := RB.cell 1
    have b2 : w2.cell? ⟨g', 2, none⟩ = some (.int .u16 (y1.p : Int)) := RB.cell 2
    rcases (show x.num < y1.num ∨ y1.num < x.num ∨ x.num = y1.num by omega) with h | h | h
    · rw [show Ky.cmp x.num y1.num = -1 by unfold Ky.cmp; rw [if_pos h]] at CC
      rw [decide_eq_true h] at LX
      clear h LY
      go_wp2_with fail
      refine (LX.out _).mono ?_
      rintro _ w3 ⟨rfl, hb3⟩
      replace hB := below_then hB hb3
      replace RA := RA.below hb3
      replace RB := RB.below hb3
      clear hb3 a0 a1 a2 b0 b1 b2 LX
      have a0 : w3.cell? ⟨g, 0, none⟩ = some (.int .u32 (x.a : Int)) := RA.cell 0
      have a1 : w3.cell? ⟨g, 1, none⟩ = some (.int .u16 (x.e : Int)) := RA.cell 1
      have a2 : w3.cell? ⟨g, 2, none⟩ = some (.int .u16 (x.p : Int)) := RA.cell 2
      have b0 : w3.cell? ⟨g', 0, none⟩ = some (.int .u32 (y1.a : Int)) := RB.cell 0
      have b1 : w3.cell? ⟨g', 1, none⟩ = some (.int .u16 (y1.e : Int)) := RB.cell 1
      have b2 : w3.cell? ⟨g', 2, none⟩ = some (.int .u16 (y1.p : Int)) := RB.cell 2
      go_wp2_with fail
      go_region_held3 (fun w' => Below w.heap.size w w' ∧ w'.cell? ⟨g, 0, none⟩ = some (.int .u32 (x.a : Int)) ∧ w'.cell? ⟨g, 1, none⟩ = some (.int .u16 (x.e : Int)) ∧ w'.cell? ⟨g, 2, none⟩ = some (.int .u16 (x.p : Int)) ∧ w'.cell? ⟨g', 0, none⟩ = some (.int .u32 (y1.a : Int)) ∧ w'.cell? ⟨g', 1, none⟩ = some (.int .u16 (y1.e : Int)) ∧ w'.cell? ⟨g', 2, none⟩ = some (.int .u16 (y1.p : Int))) (refine ⟨?_, ?_, ?_, ?_, ?_, ?_, ?_⟩ <;> first | assumption | exact below_dr hB | exact a0 | exact a1 | exact a2 | exact b0 | exact b1 | exact b2 | simp [go_sem, *]) (first | (go_at_call 6; rename_i hHeld _ _; ((with_reducible refine (UX.out _).mono ?_)); rintro e wx ⟨rfl, hb⟩; have HB := below_then hHeld.1 hb; have HC1 := cell_then hHeld.2.1 hb; have HC2 := cell_then hHeld.2.2.1 hb; have HC3 := cell_then hHeld.2.2.2.1 hb; have HC4 := cell_then hHeld.2.2.2.2.1 hb; have HC5 := cell_then hHeld.2.2.2.2.2.1 hb; have HC6 := cell_then hHeld.2.2.2.2.2.2 hb; clear hb hHeld) | (go_at_call 9; rename_i hHeld _ _; ((with_reducible refine (CC.out _).mono ?_)); rintro e wx ⟨rfl, hb⟩; have HB := below_then hHeld.1 hb; have HC1 := cell_then hHeld.2.1 hb; have HC2 := cell_then hHeld.2.2.1 hb; have HC3 := cell_then hHeld.2.2.2.1 hb; have HC4 := cell_then hHeld.2.2.2.2.1 hb; have HC5 := cell_then hHeld.2.2.2.2.2.1 hb; have HC6 := cell_then hHeld.2.2.2.2.2.2 hb; clear hb hHeld))
      rename_i hHeld
      have BB := hHeld.1
      clear hHeld
      go_wp2
      go_ret
      exact ⟨rfl, BB⟩
    · rw [show Ky.cmp x.num y1.num = 1 by unfold Ky.cmp; rw [if_neg (by omega), if_pos h]] at CC
      rw [decide_eq_false (by omega)] at LX
      rw [decide_eq_true h] at LY
      clear h
      go_wp2_with fail
      refine (LX.out _).mono ?_
      rintro _ w3 ⟨rfl, hb3⟩
      replace hB := below_then hB hb3
      replace RA := RA.below hb3
      replace RB := RB.below hb3
      clear hb3 a0 a1 a2 b0 b1 b2 LX
      have a0 : w3.cell? ⟨g, 0, none⟩ = some (.int .u32 (x.a : Int)) := RA.cell 0
      have a1 : w3.cell? ⟨g, 1, none⟩ = some (.int .u16 (x.e : Int)) := RA.cell 1
      have a2 : w3.cell? ⟨g, 2, none⟩ = some (.int .u16 (x.p : Int)) := RA.cell 2
      have b0 : w3.cell? ⟨g', 0, none⟩ = some (.int .u32 (y1.a : Int)) := RB.cell 0
      have b1 : w3.cell? ⟨g', 1, none⟩ = some (.int .u16 (y1.e : Int)) := RB.cell 1
      have b2 : w3.cell? ⟨g', 2, none⟩ = some (.int .u16 (y1.p : Int)) := RB.cell 2
      go_wp2_with fail
      refine (LY.out _).mono ?_
      rintro _ w4 ⟨rfl, hb3⟩
      replace hB := below_then hB hb3
      replace RA := RA.below hb3
      replace RB := RB.below hb3
      clear hb3 a0 a1 a2 b0 b1 b2 LY
      have a0 : w4.cell? ⟨g, 0, none⟩ = some (.int .u32 (x.a : Int)) := RA.cell 0
      have a1 : w4.cell? ⟨g, 1, none⟩ = some (.int .u16 (x.e : Int)) := RA.cell 1
      have a2 : w4.cell? ⟨g, 2, none⟩ = some (.int .u16 (x.p : Int)) := RA.cell 2
      have b0 : w4.cell? ⟨g', 0, none⟩ = some (.int .u32 (y1.a : Int)) := RB.cell 0
      have b1 : w4.cell? ⟨g', 1, none⟩ = some (.int .u16 (y1.e : Int)) := RB.cell 1
      have b2 : w4.cell? ⟨g', 2, none⟩ = some (.int .u16 (y1.p : Int)) := RB.cell 2
      go_wp2_with fail
      go_region_held3 (fun w' => Below w.heap.size w w' ∧ w'.cell? ⟨g, 0, none⟩ = some (.int .u32 (x.a : Int)) ∧ w'.cell? ⟨g, 1, none⟩ = some (.int .u16 (x.e : Int)) ∧ w'.cell? ⟨g, 2, none⟩ = some (.int .u16 (x.p : Int)) ∧ w'.cell? ⟨g', 0, none⟩ = some (.int .u32 (y1.a : Int)) ∧ w'.cell? ⟨g', 1, none⟩ = some (.int .u16 (y1.e : Int)) ∧ w'.cell? ⟨g', 2, none⟩ = some (.int .u16 (y1.p : Int))) (refine ⟨?_, ?_, ?_, ?_, ?_, ?_, ?_⟩ <;> first | assumption | exact below_dr hB | exact a0 | exact a1 | exact a2 | exact b0 | exact b1 | exact b2 | simp [go_sem, *]) (first | (go_at_call 6; rename_i hHeld _ _; ((with_reducible refine (UX.out _).mono ?_)); rintro e wx ⟨rfl, hb⟩; have HB := below_then hHeld.1 hb; have HC1 := cell_then hHeld.2.1 hb; have HC2 := cell_then hHeld.2.2.1 hb; have HC3 := cell_then hHeld.2.2.2.1 hb; have HC4 := cell_then hHeld.2.2.2.2.1 hb; have HC5 := cell_then hHeld.2.2.2.2.2.1 hb; have HC6 := cell_then hHeld.2.2.2.2.2.2 hb; clear hb hHeld) | (go_at_call 9; rename_i hHeld _ _; ((with_reducible refine (CC.out _).mono ?_)); rintro e wx ⟨rfl, hb⟩; have HB := below_then hHeld.1 hb; have HC1 := cell_then hHeld.2.1 hb; have HC2 := cell_then hHeld.2.2.1 hb; have HC3 := cell_then hHeld.2.2.2.1 hb; have HC4 := cell_then hHeld.2.2.2.2.1 hb; have HC5 := cell_then hHeld.2.2.2.2.2.1 hb; have HC6 := cell_then hHeld.2.2.2.2.2.2 hb; clear hb hHeld))
      rename_i hHeld
      have BB := hHeld.1
      clear hHeld
      go_wp2
      go_ret
      exact ⟨rfl, BB⟩
    · rw [show Ky.cmp x.num y1.num = 0 by unfold Ky.cmp; rw [if_neg (by omega), if_neg (by omega)]] at CC
      rw [decide_eq_false (by omega)] at LX LY
      clear h
      go_wp2_with fail
      refine (LX.out _).mono ?_
      rintro _ w3 ⟨rfl, hb3⟩
      replace hB := below_then hB hb3
      replace RA := RA.below hb3
      replace RB := RB.below hb3
      clear hb3 a0 a1 a2 b0 b1 b2 LX
      have a0 : w3.cell? ⟨g, 0, none⟩ = some (.int .u32 (x.a : Int)) := RA.cell 0
      have a1 : w3.cell? ⟨g, 1, none⟩ = some (.int .u16 (x.e : Int)) := RA.cell 1
      have a2 : w3.cell? ⟨g, 2, none⟩ = some (.int .u16 (x.p : Int)) := RA.cell 2
      have b0 : w3.cell? ⟨g', 0, none⟩ = some (.int .u32 (y1.a : Int)) := RB.cell 0
      have b1 : w3.cell? ⟨g', 1, none⟩ = some (.int .u16 (y1.e : Int)) := RB.cell 1
      have b2 : w3.cell? ⟨g', 2, none⟩ = some (.int .u16 (y1.p : Int)) := RB.cell 2
      go_wp2_with fail
      refine (LY.out _).mono ?_
      rintro _ w4 ⟨rfl, hb3⟩
      replace hB := below_then hB hb3
      replace RA := RA.below hb3
      replace RB := RB.below hb3
      clear hb3 a0 a1 a2 b0 b1 b2 LY
      have a0 : w4.cell? ⟨g, 0, none⟩ = some (.int .u32 (x.a : Int)) := RA.cell 0
      have a1 : w4.cell? ⟨g, 1, none⟩ = some (.int .u16 (x.e : Int)) := RA.cell 1
      have a2 : w4.cell? ⟨g, 2, none⟩ = some (.int .u16 (x.p : Int)) := RA.cell 2
      have b0 : w4.cell? ⟨g', 0, none⟩ = some (.int .u32 (y1.a : Int)) := RB.cell 0
      have b1 : w4.cell? ⟨g', 1, none⟩ = some (.int .u16 (y1.e : Int)) := RB.cell 1
      have b2 : w4.cell? ⟨g', 2, none⟩ = some (.int .u16 (y1.p : Int)) := RB.cell 2
      go_wp2_with fail
      go_region_held3 (fun w' => Below w.heap.size w w' ∧ w'.cell? ⟨g, 0, none⟩ = some (.int .u32 (x.a : Int)) ∧ w'.cell? ⟨g, 1, none⟩ = some (.int .u16 (x.e : Int)) ∧ w'.cell? ⟨g, 2, none⟩ = some (.int .u16 (x.p : Int)) ∧ w'.cell? ⟨g', 0, none⟩ = some (.int .u32 (y1.a : Int)) ∧ w'.cell? ⟨g', 1, none⟩ = some (.int .u16 (y1.e : Int)) ∧ w'.cell? ⟨g', 2, none⟩ = some (.int .u16 (y1.p : Int))) (refine ⟨?_, ?_, ?_, ?_, ?_, ?_, ?_⟩ <;> first | assumption | exact below_dr hB | exact a0 | exact a1 | exact a2 | exact b0 | exact b1 | exact b2 | simp [go_sem, *]) (first | (go_at_call 6; rename_i hHeld _ _; ((with_reducible refine (UX.out _).mono ?_)); rintro e wx ⟨rfl, hb⟩; have HB := below_then hHeld.1 hb; have HC1 := cell_then hHeld.2.1 hb; have HC2 := cell_then hHeld.2.2.1 hb; have HC3 := cell_then hHeld.2.2.2.1 hb; have HC4 := cell_then hHeld.2.2.2.2.1 hb; have HC5 := cell_then hHeld.2.2.2.2.2.1 hb; have HC6 := cell_then hHeld.2.2.2.2.2.2 hb; clear hb hHeld) | (go_at_call 9; rename_i hHeld _ _; ((with_reducible refine (CC.out _).mono ?_)); rintro e wx ⟨rfl, hb⟩; have HB := below_then hHeld.1 hb; have HC1 := cell_then hHeld.2.1 hb; have HC2 := cell_then hHeld.2.2.1 hb; have HC3 := cell_then hHeld.2.2.2.1 hb; have HC4 := cell_then hHeld.2.2.2.2.1 hb; have HC5 := cell_then hHeld.2.2.2.2.2.1 hb; have HC6 := cell_then hHeld.2.2.2.2.2.2 hb; clear hb hHeld))
      rename_i hHeld
      have BB := hHeld.1
      clear hHeld
      go_wp2
      go_ret
      exact ⟨rfl, BB⟩
end Go.Proofs.YtahagfdjpldblaaDoor
