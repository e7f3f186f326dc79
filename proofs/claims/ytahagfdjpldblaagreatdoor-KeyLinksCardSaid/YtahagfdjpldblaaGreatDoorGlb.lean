/-
  What is asked of the package-level variables that the library reads, and that it stays so.
-/
import Derived.Test.YtahagfdjpldblaaGreatDoorProg
import Derived.Test.YtahagfdjpldblaaGreatDoorKit
import Derived.Test.YtahagfdjpldblaaGreatDoorShelf
import Derived.Lib.LaidTab
namespace Go.Proofs.YtahagfdjpldblaaGreatDoor
open Go.RowKit
set_option linter.unusedVariables false
set_option linter.unusedSimpArgs false

theorem var_below {P : Program} {w w' : World} {name : String} {cs : Array Value} (h : w.var? P name = some cs) (hb : Below w.heap.size w w') : w'.var? P name = some cs := by
  unfold World.var? at *
  cases hg : P.globalNamed name with
  | none => rw [hg] at h; cases h
  | some g =>
    rw [hg] at h
    simp only [Option.bind_some] at h ⊢
    have hlt : g < w.heap.size := by
      by_cases c : g < w.heap.size
      · exact c
      · rw [Array.getElem?_eq_none (by omega)] at h; cases h
    rw [hb.block g hlt]
    exact h
theorem var_cell {P : Program} {w : World} {name : String} {cs : Array Value} (h : w.var? P name = some cs) {g : Nat} (hg : P.globalNamed name = some g) (i : Nat) : w.cell? ⟨g, i, none⟩ = cs[i]? := by
  unfold World.var? at h
  rw [hg] at h
  simp only [Option.bind_some] at h
  cases hh : w.heap[g]? with
  | none => rw [hh] at h; cases h
  | some o =>
    rw [hh] at h
    cases o with
    | cells c t f => simp only [Option.some.injEq] at h; subst h; simp [World.cell?, hh]
    | _ => cases h
/-- the library's variables hold what they must -/
structure Glb (w : World) : Prop where
  pow : Lib.TabIs Tryz.prog w "internal/strconv.uint64pow10" .u64 Lib.pow10Tab
  maxlen : ∃ m, w.cell? ⟨2, 0, none⟩ = some (.int .i64 m)
  synt : ∃ t p, w.var? Tryz.prog "strconv.ErrSyntax" = some #[.iface t p]
  rang : ∃ t p, w.var? Tryz.prog "strconv.ErrRange" = some #[.iface t p]
theorem Glb.below {w w' : World} (h : Glb w) (hb : Below w.heap.size w w') : Glb w' := by
  obtain ⟨h1, ⟨m, h2⟩, ⟨t, p, h3⟩, ⟨t', p', h4⟩⟩ := h
  exact ⟨var_below h1 hb, ⟨m, cell_then h2 hb⟩, ⟨t, p, var_below h3 hb⟩, ⟨t', p', var_below h4 hb⟩⟩
theorem Glb.alloc {w : World} (h : Glb w) (o : Obj) : Glb (w.alloc o) := h.below ((Below.refl _ _).alloc (Nat.le_refl _) _)
theorem Glb.drewN {w : World} (h : Glb w) (n : Nat) : Glb (w.drewN n) := h.below ⟨rfl, rfl, rfl, Nat.le_refl _, fun _ _ => rfl⟩
end Go.Proofs.YtahagfdjpldblaaGreatDoor
