/-
  The order of pairs of keys: the closure that key.Links.Pairs hands to the sort.
-/
import Derived.Test.YtahagfdjpldblaaGreatDoorCmpG
import Derived.Test.YtahagfdjpldblaaGreatDoorSorted
import Derived.Shelf.SlSortCmp.WholeK
namespace Go.Proofs.YtahagfdjpldblaaGreatDoor
open Go.RowKit Ky Go.Lib Go.Sort
set_option linter.unusedVariables false
set_option linter.unusedSimpArgs false

def pcmp (c d : K × K) : Int := if Ky.cmp c.1.num d.1.num = 0 then Ky.cmp c.2.num d.2.num else Ky.cmp c.1.num d.1.num
def okp (c : K × K) : Prop := c.1.ok ∧ c.2.ok
set_option maxHeartbeats 1000000 in
set_option maxRecDepth 100000 in
theorem pairs_cmp (c d : K × K) (hc : okp c) (hd : okp d) (w : World) : Calls Tryz.prog 30 #[.agg (pc c).toArray, .agg (pc d).toArray] w fun e w' => e = .returned (.int .i64 (pcmp c d)) ∧ Gr w w' := by
  have C1 := Lib.hid (compare_gr c.1 d.1 hc.1 hd.1)
  have C2 := Lib.hid (compare_gr c.2 d.2 hc.2 hd.2)
  have HG := Lib.hid (Gr.alloc (Gr.alloc (Gr.refl w) (.cells (pc c).toArray 49)) (.cells (pc d).toArray 49))
  have RA := (Row.new w (pc c).toArray 49).alloc (.cells (pc d).toArray 49)
  have RB := Row.new' (w.alloc (.cells (pc c).toArray 49)) (pc d).toArray 49 (g := w.heap.size + 1) (by simp)
  unfold K.val at C1 C2
  unfold pcmp
  generalize Ky.cmp c.1.num d.1.num = n1 at *
  generalize Ky.cmp c.2.num d.2.num = n2 at *
  unfold pc at *
  clear hc hd
  by_cases h : n1 = 0
  · have q : (n1 != 0) = false := by rw [h]; rfl
    rw [if_pos h]
    clear h
    go_enter Tryz.func30, Tryz.ntmps30
    go_wp2_with fail
    refine (C1.out _).mono ?_
    rintro _ w2 ⟨rfl, hg2⟩
    have RA2 := RA.below hg2.below
    have RB2 := RB.below hg2.below
    have HG2 := Lib.hid (HG.out.trans hg2)
    have a3 : w2.cell? ⟨w.heap.size, 3, none⟩ = some (.int .u32 (c.2.a : Int)) := RA2.cell 3
    have a4 : w2.cell? ⟨w.heap.size, 4, none⟩ = some (.int .u16 (c.2.e : Int)) := RA2.cell 4
    have a5 : w2.cell? ⟨w.heap.size, 5, none⟩ = some (.int .u16 (c.2.p : Int)) := RA2.cell 5
    have b3 : w2.cell? ⟨w.heap.size + 1, 3, none⟩ = some (.int .u32 (d.2.a : Int)) := RB2.cell 3
    have b4 : w2.cell? ⟨w.heap.size + 1, 4, none⟩ = some (.int .u16 (d.2.e : Int)) := RB2.cell 4
    have b5 : w2.cell? ⟨w.heap.size + 1, 5, none⟩ = some (.int .u16 (d.2.p : Int)) := RB2.cell 5
    clear RA RB RA2 RB2 hg2 C1
    go_wp2_with fail
    refine (C2.out _).mono ?_
    rintro _ w3 ⟨rfl, hg3⟩
    go_wp2
    go_ret
    exact ⟨rfl, HG2.out.trans hg3⟩
  · have q : (n1 != 0) = true := by rw [bne_iff_ne]; exact h
    rw [if_neg h]
    clear h
    go_enter Tryz.func30, Tryz.ntmps30
    go_wp2_with fail
    refine (C1.out _).mono ?_
    rintro _ w2 ⟨rfl, hg2⟩
    go_wp2
    go_ret
    exact ⟨rfl, HG.out.trans hg2⟩
theorem cmp_lt (x y : Nat) : Ky.cmp x y < 0 ↔ x < y := by
  unfold Ky.cmp
  split
  · omega
  · split <;> omega
theorem cmp_zero (x y : Nat) : Ky.cmp x y = 0 ↔ x = y := by
  unfold Ky.cmp
  split
  · omega
  · split <;> omega
/-- pairs' order -/
theorem pcmp_lt (c d : K × K) : pcmp c d < 0 ↔ (c.1.num < d.1.num ∨ c.1.num = d.1.num ∧ c.2.num < d.2.num) := by
  unfold pcmp
  split
  · next h => rw [cmp_zero] at h; rw [cmp_lt]; omega
  · next h => rw [cmp_zero] at h; rw [cmp_lt]; omega
theorem pcmp_swo : SWO (ltOf fun c d : { c : K × K // okp c } => pcmp c.1 d.1) where
  irrefl x := by unfold ltOf; rw [decide_eq_false_iff_not, pcmp_lt]; omega
  trans x y z h1 h2 := by unfold ltOf at *; rw [decide_eq_true_eq, pcmp_lt] at *; omega
  ntrans x y z h1 h2 := by unfold ltOf at *; rw [decide_eq_false_iff_not, pcmp_lt] at *; omega
end Go.Proofs.YtahagfdjpldblaaGreatDoor
