/-
  key.Links.Link of nil ones, key.Links.Many.
-/
import Derived.Test.YtahagfdjpldblaaGreatDoorLinks
namespace Go.Proofs.YtahagfdjpldblaaGreatDoor
open Go.RowKit Ky
open Go.Maps (Keyed)
set_option linter.unusedVariables false
set_option linter.unusedSimpArgs false

theorem link_none (x y : K) (w : World) : Calls Tryz.prog 15 #[.map none, x.val, y.val] w fun e w' => e = .returned (.tuple #[]) ∧ Below w.heap.size w w' := by
  have hne : ∀ W : World, (Go.binOp BinOp.neq 51 (.map none) (.map none)).run Tryz.prog W = .ok (.bool false) W := fun W => by kernel_rfl
  unfold K.val
  go_enter Tryz.func15, Tryz.ntmps15
  go_wp2
  go_end0
  exact ⟨rfl, below_alloc (below_alloc (Below.refl _ w) _) _⟩
theorem many_any (b n : Nat) (G : K × K → Option Nat) (x y : K) (hx : x.ok) (hy : y.ok) (w : World) (hM : MapIs w Tryz.prog 49 pval lval b n G) :
    Calls Tryz.prog 17 #[.map (some b), x.val, y.val] w fun e w' => e = .returned (.int .i64 (((G (x, y)).getD 0 : Nat) : Int)) ∧ Below w.heap.size w w' := by
  obtain ⟨kl, hkey⟩ := pair_of (x, y) hx hy
  have hval : getV lval (.int .i64 0) (G (x, y)) = .int .i64 (((G (x, y)).getD 0 : Nat) : Int) := by
    cases h : G (x, y) <;> rfl
  have hB := below_alloc (below_alloc (Below.refl _ w) (.cells #[.int .u32 (x.a : Int), .int .u16 (x.e : Int), .int .u16 (x.p : Int)] 29)) (.cells #[.int .u32 (y.a : Int), .int .u16 (y.e : Int), .int .u16 (y.p : Int)] 29)
  have hl := MapIs.look (enc := pval) (vl := lval) (G := G) (n := n) (e := 3) (t := 51) (hM.below hB) (Keyed.of_law lawPair) Tryz.underlying51 pval_inj (zero_int _) (x, y) hkey
  rw [hval] at hl
  unfold pval at hl
  dsimp only at hl
  have HB := Lib.hid hB
  clear hB hM hkey hval hx hy
  generalize (((G (x, y)).getD 0 : Nat) : Int) = v at *
  unfold K.val
  go_enter Tryz.func17, Tryz.ntmps17
  go_wp2
  go_ret
  exact ⟨rfl, HB.out⟩
theorem many_none (x y : K) (hx : x.ok) (hy : y.ok) (w : World) : Calls Tryz.prog 17 #[.map none, x.val, y.val] w fun e w' => e = .returned (.int .i64 0) ∧ Below w.heap.size w w' := by
  obtain ⟨kl, hkey⟩ := pair_of (x, y) hx hy
  have hl : ∀ W : World, (Instr.lookup 51 (.map none) (pval (x, y)) false).run Tryz.prog W = .ok (.int .i64 0) W := fun W => by
    have hf : (Instr.findKey 49 (pval (x, y)) []).run Tryz.prog W = .ok none W := by
      rcases (Keyed.of_law lawPair).find W hkey [] (by simp) with ⟨h, _⟩ | ⟨j, e0, _, h, _⟩
      · exact h
      · simp at h
    simp [Instr.lookup, run_underlying Tryz.underlying51, (Keyed.of_law lawPair).check W _ hkey, hf, zero_int, Result.andThen]
  unfold pval at hl
  dsimp only at hl
  have HB := Lib.hid (below_alloc (below_alloc (Below.refl _ w) (.cells #[.int .u32 (x.a : Int), .int .u16 (x.e : Int), .int .u16 (x.p : Int)] 29)) (.cells #[.int .u32 (y.a : Int), .int .u16 (y.e : Int), .int .u16 (y.p : Int)] 29))
  clear hkey hx hy
  unfold K.val
  go_enter Tryz.func17, Tryz.ntmps17
  go_wp2
  go_ret
  exact ⟨rfl, HB.out⟩
end Go.Proofs.YtahagfdjpldblaaGreatDoor
