/-
  key.Compare once more: what it does to the world, told to the block (for the library's sort); the order of pairs.
-/
import Derived.Test.YtahagfdjpldblaaGreatDoorLinks
import Derived.Lib.Walk
namespace Go.Proofs.YtahagfdjpldblaaGreatDoor
open Go.RowKit Ky Go.Lib Go.Sort
set_option linter.unusedVariables false
set_option linter.unusedSimpArgs false

/-- w' is W, some draws and some new blocks later -/
def Gr (W w' : World) : Prop := ∃ q os', w' = grow (W.drewN q) os'
theorem Gr.refl (W : World) : Gr W W := ⟨0, #[], by simp [grow, World.drewN]⟩
theorem Gr.alloc {W w' : World} (h : Gr W w') (o : Obj) : Gr W (w'.alloc o) := by
  obtain ⟨q, os, rfl⟩ := h
  exact ⟨q, os ++ #[o], by rw [alloc_eq_grow, grow_grow]⟩
theorem Gr.drew {W w' : World} (h : Gr W w') : Gr W w'.drew := by
  obtain ⟨q, os, rfl⟩ := h
  exact ⟨q + 1, os, rfl⟩
theorem Gr.trans {a b c : World} (h : Gr a b) (k : Gr b c) : Gr a c := by
  obtain ⟨q, os, rfl⟩ := h
  obtain ⟨q', os', rfl⟩ := k
  exact ⟨q + q', os ++ os', by rw [← World.drewN_drewN, ← grow_grow]; rfl⟩
theorem Gr.below {W w' : World} (h : Gr W w') : Below W.heap.size W w' := by
  obtain ⟨q, os, rfl⟩ := h
  exact below_grow W.heap.size W (Nat.le_refl _) q os
theorem pack_gr (k : K) (hk : k.ok) (w : World) : Calls Tryz.prog 22 #[k.val] w fun r w' => r = .returned (.int .u64 ((k.num : Nat) : Int)) ∧ Gr w w' := by
  obtain ⟨ha, he, hp⟩ := hk
  unfold K.val
  go_enter Tryz.func22, Tryz.ntmps22
  go_wp2
  go_ret
  exact ⟨ret_int (pack_bits k.a k.e k.p ha he hp), (Gr.refl w).alloc _⟩
set_option maxHeartbeats 1000000 in
theorem compare_gr (x y : K) (hx : x.ok) (hy : y.ok) (w : World) : Calls Tryz.prog 27 #[x.val, y.val] w fun r w' => r = .returned (.int .i64 (Ky.cmp x.num y.num)) ∧ Gr w w' := by
  have PX := Lib.hid (pack_gr x hx)
  have PY := Lib.hid (pack_gr y hy)
  have CM := Lib.hid (cmp_u64 x.num y.num)
  unfold K.val at *
  generalize Ky.cmp x.num y.num = c at *
  generalize ((x.num : Nat) : Int) = nx at *
  generalize ((y.num : Nat) : Int) = ny at *
  go_enter Tryz.func27, Tryz.ntmps27
  go_wp2_with fail
  have RA := (Row.new w #[.int .u32 (x.a : Int), .int .u16 (x.e : Int), .int .u16 (x.p : Int)] 29).alloc (.cells #[.int .u32 (y.a : Int), .int .u16 (y.e : Int), .int .u16 (y.p : Int)] 29)
  have RB := Row.new' (w.alloc (.cells #[.int .u32 (x.a : Int), .int .u16 (x.e : Int), .int .u16 (x.p : Int)] 29)) #[.int .u32 (y.a : Int), .int .u16 (y.e : Int), .int .u16 (y.p : Int)] 29 (g := w.heap.size + 1) (by simp)
  have hB := Gr.alloc (Gr.alloc (Gr.refl w) (.cells #[.int .u32 (x.a : Int), .int .u16 (x.e : Int), .int .u16 (x.p : Int)] 29)) (.cells #[.int .u32 (y.a : Int), .int .u16 (y.e : Int), .int .u16 (y.p : Int)] 29)
  generalize (w.alloc (.cells #[.int .u32 (x.a : Int), .int .u16 (x.e : Int), .int .u16 (x.p : Int)] 29)).alloc (.cells #[.int .u32 (y.a : Int), .int .u16 (y.e : Int), .int .u16 (y.p : Int)] 29) = w2 at *
  obtain ⟨g, hg⟩ : ∃ g, g = w.heap.size := ⟨_, rfl⟩
  obtain ⟨g', hg'⟩ : ∃ g', g' = w.heap.size + 1 := ⟨_, rfl⟩
  rw [← hg] at RA
  rw [← hg'] at RB
  rw [← hg', ← hg]
  have a0 : w2.cell? ⟨g, 0, none⟩ = some (.int .u32 (x.a : Int)) := RA.cell 0
  have a1 : w2.cell? ⟨g, 1, none⟩ = some (.int .u16 (x.e : Int)) := RA.cell 1
  have a2 : w2.cell? ⟨g, 2, none⟩ = some (.int .u16 (x.p : Int)) := RA.cell 2
  have b0 : w2.cell? ⟨g', 0, none⟩ = some (.int .u32 (y.a : Int)) := RB.cell 0
  have b1 : w2.cell? ⟨g', 1, none⟩ = some (.int .u16 (y.e : Int)) := RB.cell 1
  have b2 : w2.cell? ⟨g', 2, none⟩ = some (.int .u16 (y.p : Int)) := RB.cell 2
  clear RA RB hg hg'
  go_region_held3 (fun w' => Gr w w' ∧ w'.cell? ⟨g, 0, none⟩ = some (.int .u32 (x.a : Int)) ∧ w'.cell? ⟨g, 1, none⟩ = some (.int .u16 (x.e : Int)) ∧ w'.cell? ⟨g, 2, none⟩ = some (.int .u16 (x.p : Int)) ∧ w'.cell? ⟨g', 0, none⟩ = some (.int .u32 (y.a : Int)) ∧ w'.cell? ⟨g', 1, none⟩ = some (.int .u16 (y.e : Int)) ∧ w'.cell? ⟨g', 2, none⟩ = some (.int .u16 (y.p : Int))) (refine ⟨?_, ?_, ?_, ?_, ?_, ?_, ?_⟩ <;> first | assumption | exact hB.drew | exact a0 | exact a1 | exact a2 | exact b0 | exact b1 | exact b2 | simp [go_sem, *]) (first | (go_at_call 22; rename_i hHeld _ _; ((with_reducible refine (PX.out _).mono ?_)); rintro e wx ⟨rfl, hg2⟩; have HB := hHeld.1.trans hg2; have hb := hg2.below; have HC1 := cell_then hHeld.2.1 hb; have HC2 := cell_then hHeld.2.2.1 hb; have HC3 := cell_then hHeld.2.2.2.1 hb; have HC4 := cell_then hHeld.2.2.2.2.1 hb; have HC5 := cell_then hHeld.2.2.2.2.2.1 hb; have HC6 := cell_then hHeld.2.2.2.2.2.2 hb; clear hb hg2 hHeld) | (go_at_call 22; rename_i hHeld _ _; ((with_reducible refine (PY.out _).mono ?_)); rintro e wx ⟨rfl, hg2⟩; have HB := hHeld.1.trans hg2; have hb := hg2.below; have HC1 := cell_then hHeld.2.1 hb; have HC2 := cell_then hHeld.2.2.1 hb; have HC3 := cell_then hHeld.2.2.2.1 hb; have HC4 := cell_then hHeld.2.2.2.2.1 hb; have HC5 := cell_then hHeld.2.2.2.2.2.1 hb; have HC6 := cell_then hHeld.2.2.2.2.2.2 hb; clear hb hg2 hHeld) | (go_at_call 36; rename_i hHeld _ _; ((with_reducible refine (CM.out _).mono ?_)); rintro e wx ⟨rfl, rfl⟩))
  rename_i hHeld
  have BB := hHeld.1
  clear hHeld
  go_wp2
  go_ret
  exact ⟨rfl, BB⟩
end Go.Proofs.YtahagfdjpldblaaGreatDoor
