/-
  Small helpers over any program: a block known whole ('Row'), what a call leaves of it, results that lie in such a block.
-/
import Derived.WalkKit
import Derived.WalkSpells
import Derived.WalkLawsBesides
import Derived.Laws.Rows
import Derived.Lib.Hide
namespace Go.Proofs.YtahagfdjpldblaaGreatDoor
open Go.RowKit
set_option linter.unusedVariables false
set_option linter.unusedSimpArgs false

/-- block g of the world is a row of cells, not frozen -/
def Row (w : World) (g : Nat) (cs : Array Value) (t : TypeId) : Prop := w.heap[g]? = some (.cells cs t (0, 0))
theorem Row.cell {w : World} {g : Nat} {cs : Array Value} {t : TypeId} (h : Row w g cs t) (i : Nat) : w.cell? ⟨g, i, none⟩ = cs[i]? := cell_of_row w g i cs t _ h
theorem Row.frozen {w : World} {g : Nat} {cs : Array Value} {t : TypeId} (h : Row w g cs t) (i : Nat) : w.frozen? ⟨g, i, none⟩ = false := frozen_of_row w g i cs t h
theorem Row.lt {w : World} {g : Nat} {cs : Array Value} {t : TypeId} (h : Row w g cs t) : g < w.heap.size := by
  by_cases hl : g < w.heap.size
  · exact hl
  · unfold Row at h; rw [Array.getElem?_eq_none (by omega)] at h; cases h
theorem Row.below {w w' : World} {g : Nat} {cs : Array Value} {t : TypeId} (h : Row w g cs t) (hb : Below w.heap.size w w') : Row w' g cs t := (hb.block g h.lt).trans h
theorem Row.new (w : World) (cs : Array Value) (t : TypeId) : Row (w.alloc (.cells cs t)) w.heap.size cs t := Go.heap_alloc_new w _
theorem Row.new' (w : World) (cs : Array Value) (t : TypeId) {g : Nat} (h : g = w.heap.size) : Row (w.alloc (.cells cs t)) g cs t := h ▸ Go.heap_alloc_new w _
theorem Row.alloc {w : World} {g : Nat} {cs : Array Value} {t : TypeId} (h : Row w g cs t) (o : Obj) : Row (w.alloc o) g cs t := by have h1 := h.lt; unfold Row at *; show (w.heap.push o)[g]? = _; rw [Array.getElem?_push, if_neg (Nat.ne_of_lt h1)]; exact h
theorem Row.drew {w : World} {g : Nat} {cs : Array Value} {t : TypeId} (h : Row w g cs t) : Row w.drew g cs t := h
theorem Row.drewN {w : World} {g : Nat} {cs : Array Value} {t : TypeId} (h : Row w g cs t) (n : Nat) : Row (w.drewN n) g cs t := h
theorem Row.set {w : World} {g : Nat} {cs : Array Value} {t : TypeId} (h : Row w g cs t) (i : Nat) (v : Value) : Row (w.setCell ⟨g, i, none⟩ v) g (cs.setIfInBounds i v) t := heap_setCell_same w g i cs t v h
theorem Row.other {w : World} {g : Nat} {cs : Array Value} {t : TypeId} (h : Row w g cs t) (a : Addr) (hn : g ≠ a.block) (v : Value) : Row (w.setCell a v) g cs t := (heap_setCell_other w a g v hn).trans h

theorem bcell {W w1 : World} (hb : Below W.heap.size W w1) : (∀ b o, b < W.heap.size → w1.cell? ⟨b, o, none⟩ = W.cell? ⟨b, o, none⟩) ∧ (∀ b o, b < W.heap.size → w1.frozen? ⟨b, o, none⟩ = W.frozen? ⟨b, o, none⟩) :=
  ⟨fun b o h => hb.cell (p := ⟨b, o, none⟩) h, fun b o h => hb.frozen (p := ⟨b, o, none⟩) h⟩
theorem below_then {w W w' : World} (h1 : Below w.heap.size w W) (h2 : Below W.heap.size W w') : Below w.heap.size w w' := h1.trans (h2.mono h1.size)
theorem cell_then {W w' : World} {a : Addr} {v : Value} (h : W.cell? a = some v) (h2 : Below W.heap.size W w') : w'.cell? a = some v := (h2.cell (block_lt_of_cell h)).trans h
theorem frozen_then {W w' : World} {a : Addr} {v : Value} (h : W.cell? a = some v) (hf : W.frozen? a = false) (h2 : Below W.heap.size W w') : w'.frozen? a = false := (h2.frozen (block_lt_of_cell h)).trans hf
theorem below_alloc {w W : World} (h1 : Below w.heap.size w W) (o : Obj) : Below w.heap.size w (W.alloc o) := h1.alloc h1.size o
theorem below_set {w W : World} {g : Nat} (h1 : Below w.heap.size w W) (hg : w.heap.size ≤ g) (i : Nat) (v : Value) : Below w.heap.size w (W.setCell ⟨g, i, none⟩ v) := h1.setCell hg v

theorem ret_int {k : IntKind} {a b : Int} (h : a = b) : Ending.returned (.int k a) = .returned (.int k b) := by rw [h]
theorem ret_bool {a b : Bool} (h : a = b) : Ending.returned (.bool a) = .returned (.bool b) := by rw [h]
theorem ret_agg2 {k k' : IntKind} {a b a' b' : Int} (h : a = a') (h' : b = b') : Ending.returned (.agg #[.int k a, .int k' b]) = .returned (.agg #[.int k a', .int k' b']) := by rw [h, h']
theorem ret_two {k k' : IntKind} {a b a' b' : Int} (h : a = a') (h' : b = b') : Ending.returned (.tuple #[.int k a, .int k' b]) = .returned (.tuple #[.int k a', .int k' b']) := by rw [h, h']

/-- a struct of two cells as the one result: both cells were stored last -/
theorem res_set2 {P : Program} {fn : Func} {p : Tmp} {ty : TypeId} (h : fn.results = #[.cell p ty]) (tmps : Array Value) {w : World} {g : Nat} {t : TypeId} {x y : Value} (d : TypeDesc)
    (hr : Row w g #[x, y] t) (a b : Value) (hp : tmps.getD p undef = .pointer (some ⟨g, 0, none⟩))
    (hu : P.underlying ty = some d) (hd : (match d with | .struct _ | .array _ _ => true | _ => false) = true) (hi : (P.info? ty).map (·.size) = some 2) :
    (results fn tmps).run P ((w.setCell ⟨g, 0, none⟩ a).setCell ⟨g, 1, none⟩ b) = .ok (.agg #[a, b]) ((w.setCell ⟨g, 0, none⟩ a).setCell ⟨g, 1, none⟩ b) :=
  results_cell_row h tmps _ g t #[a, b] (0, 0) d hp ((hr.set 0 a).set 1 b) hu hd hi
/-- a struct or an array as the one result: what its block holds -/
theorem res_row {P : Program} {fn : Func} {p : Tmp} {ty : TypeId} (h : fn.results = #[.cell p ty]) (tmps : Array Value) {w : World} {g : Nat} {t : TypeId} {cs : Array Value} (d : TypeDesc)
    (hr : Row w g cs t) (hp : tmps.getD p undef = .pointer (some ⟨g, 0, none⟩))
    (hu : P.underlying ty = some d) (hd : (match d with | .struct _ | .array _ _ => true | _ => false) = true) (hi : (P.info? ty).map (·.size) = some cs.size) :
    (results fn tmps).run P w = .ok (.agg cs) w :=
  results_cell_row h tmps _ g t cs (0, 0) d hp hr hu hd hi
end Go.Proofs.YtahagfdjpldblaaGreatDoor
