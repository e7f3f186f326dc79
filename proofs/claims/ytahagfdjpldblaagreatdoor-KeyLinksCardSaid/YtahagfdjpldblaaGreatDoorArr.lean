/-
  Arrays of numbers, known whole: how they are boxed, made, read and stored as one value (over any program).
-/
import Derived.Test.YtahagfdjpldblaaGreatDoorKit
import Derived.Laws.Tables
namespace Go.Proofs.YtahagfdjpldblaaGreatDoor
open Go.RowKit
set_option linter.unusedVariables false
set_option linter.unusedSimpArgs false

/-- n numbers as cells -/
def vec (n : Nat) (f : Nat → Int) : Array Value := (Array.range n).map fun i => .int .i64 (f i)
theorem vec_size (n : Nat) (f : Nat → Int) : (vec n f).size = n := by simp [vec]
theorem vec_get (n : Nat) (f : Nat → Int) (i : Nat) (h : i < n) : (vec n f)[i]? = some (.int .i64 (f i)) := by simp [vec, h]
theorem vec_congr {n : Nat} {f g : Nat → Int} (h : ∀ i, i < n → f i = g i) : vec n f = vec n g := by
  unfold vec
  apply Array.ext
  · simp
  · intro i h1 h2
    simp at h1
    simp [h i h1]
theorem vec_set (n : Nat) (f : Nat → Int) (k : Nat) (x : Int) : (vec n f).setIfInBounds k (.int .i64 x) = vec n (fun i => if i = k then x else f i) := by
  apply Array.ext_getElem?
  intro i
  rw [Array.getElem?_setIfInBounds]
  by_cases e : k = i
  · subst e
    by_cases hk : k < n
    · have e2 := vec_get n (fun i => if i = k then x else f i) k hk
      rw [e2]; simp [vec_size, hk]
    · simp [vec, hk]
  · have e' : ¬ i = k := fun h => e h.symm
    simp [vec, e, e', Array.getElem?_map]
    by_cases hk : i < n
    · simp [hk, e']
    · simp [hk]
theorem vec_one (n : Nat) (f : Nat → Int) : (vec n f).all (·.oneCell') = true := by
  rw [Array.all_eq_true_iff_forall_mem]; intro v hv; simp [vec] at hv; obtain ⟨i, _, rfl⟩ := hv; rfl
theorem vec_zero (n : Nat) : Array.replicate n (Value.int .i64 0) = vec n (fun _ => 0) := by
  unfold vec; apply Array.ext <;> simp

theorem Row.fill {W : World} {g k n : Nat} {f f' : Nat → Int} {x : Int} {t : TypeId} (R : Row W g (vec n f) t) (h : ∀ i, i < n → (if i = k then x else f i) = f' i) : Row (W.setCell ⟨g, k, none⟩ (.int .i64 x)) g (vec n f') t := by
  have h1 := R.set k (.int .i64 x)
  rw [vec_set, vec_congr h] at h1
  exact h1
theorem Row.as {W : World} {g n : Nat} {f f' : Nat → Int} {t : TypeId} (R : Row W g (vec n f) t) (h : ∀ i, i < n → f i = f' i) : Row W g (vec n f') t := vec_congr h ▸ R

theorem fill_step (F : Nat → Int) (G : Nat → Int) (k i : Nat) : (if i = k then F k else if i < k then F i else G i) = if i < k + 1 then F i else G i := by
  by_cases e : i = k
  · subst e; simp
  · rw [if_neg e]
    by_cases e2 : i < k
    · rw [if_pos e2, if_pos (by omega)]
    · rw [if_neg e2, if_neg (by omega)]
theorem below_dr {B : Nat} {w W : World} (h : Below B w W) : Below B w W.drew := ⟨h.os, h.tape, h.output, h.size, h.block⟩
theorem below_dN {B : Nat} {w W : World} (h : Below B w W) (n : Nat) : Below B w (W.drewN n) := ⟨h.os, h.tape, h.output, h.size, h.block⟩

section
variable {P : Program} {ops : Array Oper} {rest : List Oper} {o : Oper} {a : Act} {Q : Exit → Act → World → Prop} {W : World}
theorem ev_box {N : Tmp} (hd : o.dst = some N) (hgd : o.guard = none) (T : TypeId) (x : Operand) (ho : o.op = .box T x) (cs : Array Value) (hx : a.eval x = .agg cs)
    (h : ∀ g w1, W.heap.size ≤ g → Row w1 g cs T → Below W.heap.size W w1 → wpList P ops Q rest (a.put o.dst (.pointer (some ⟨g, 0, none⟩))) w1) : wpList P ops Q (o :: rest) a W := by
  refine wpList_plain hgd fun K hK => ?_
  unfold Oper.wp execOp
  simp only [ho, hx]
  exact hK _ _ (h W.heap.size (W.alloc (.cells cs T)) (Nat.le_refl _) (Row.new W cs T) ((Below.refl _ _).alloc (Nat.le_refl _) _))
theorem ev_alloc {N : Tmp} (hd : o.dst = some N) (hgd : o.guard = none) (T : TypeId) (ho : o.op = .alloc T) (cs : Array Value) (hz : ∀ w : World, (zeroValue T).run P w = .ok (.agg cs) w)
    (h : ∀ g w1, W.heap.size ≤ g → Row w1 g cs T → Below W.heap.size W w1 → wpList P ops Q rest (a.put o.dst (.pointer (some ⟨g, 0, none⟩))) w1) : wpList P ops Q (o :: rest) a W := by
  refine wpList_plain hgd fun K hK => ?_
  unfold Oper.wp execOp
  simp only [ho, Instr.alloc, Sem.run_bind, hz, Result.andThen_ok]
  exact hK _ _ (h W.heap.size (W.alloc (.cells cs T)) (Nat.le_refl _) (Row.new W cs T) ((Below.refl _ _).alloc (Nat.le_refl _) _))
theorem ev_load {N : Tmp} (hd0 : o.dst = some N) (hgd : o.guard = none) (T : TypeId) (x : Operand) (ho : o.op = .load T x) (g : Nat) (hx : a.eval x = .pointer (some ⟨g, 0, none⟩)) {cs : Array Value} {t : TypeId} (R : Row W g cs t)
    (d : TypeDesc) (hu : P.underlying T = some d) (hd : (match d with | .struct _ | .array _ _ => true | _ => false) = true) (hi : (P.info? T).map (·.size) = some cs.size)
    (h : wpList P ops Q rest (a.put o.dst (.agg cs)) W) : wpList P ops Q (o :: rest) a W :=
  wpList_load_row hgd T x ho g hx t cs (0, 0) d R hu hd hi h
/-- the same behind a guard that is met -/
theorem ev_load_g {N : Tmp} (hd0 : o.dst = some N) (hgd : Region.wanted o (yielded ops a.tmps) = true) (T : TypeId) (x : Operand) (ho : o.op = .load T x) (g : Nat) (hx : a.eval x = .pointer (some ⟨g, 0, none⟩)) {cs : Array Value} {t : TypeId} (R : Row W g cs t)
    (d : TypeDesc) (hu : P.underlying T = some d) (hd : (match d with | .struct _ | .array _ _ => true | _ => false) = true) (hi : (P.info? T).map (·.size) = some cs.size)
    (h : wpList P ops Q rest (a.put o.dst (.agg cs)) W) : wpList P ops Q (o :: rest) a W := by
  refine wpList_step fun K hK => ?_
  rw [if_pos hgd]
  exact wp_load_row T x ho g hx t cs (0, 0) d R hu hd hi (hK _ _ h)
/-- what is so of a world behind a store of a whole row -/
structure Stored (W : World) (g : Nat) (w1 : World) : Prop where
  other : ∀ k, k ≠ g → w1.heap[k]? = W.heap[k]?
  size : w1.heap.size = W.heap.size
  os : w1.os = W.os
  tape : w1.tape = W.tape
  output : w1.output = W.output
theorem Stored.below {B : Nat} {W : World} {g : Nat} {w0 w1 : World} (h : Stored W g w1) (hB : Below B w0 W) (hg : B ≤ g) : Below B w0 w1 :=
  hB.trans ⟨h.os, h.tape, h.output, by rw [h.size]; exact Nat.le_refl _, fun k hk => h.other k (by omega)⟩
theorem Row.stored {W : World} {g g' : Nat} {w1 : World} {cs : Array Value} {t : TypeId} (R : Row W g' cs t) (h : Stored W g w1) (hn : g' ≠ g) : Row w1 g' cs t := (h.other g' hn).trans R
theorem stored_setRow (W : World) (g : Nat) (cells : Array Value) : Stored W g (W.setRow g cells) := by
  refine ⟨fun k hk => ?_, size_setRow _ _ _, rfl, rfl, rfl⟩
  exact setRow_other W g k cells hk
theorem ev_store (hgd : o.guard = none) (T : TypeId) (x y : Operand) (ho : o.op = .store T x y) (g : Nat) (cells : Array Value) (hx : a.eval x = .pointer (some ⟨g, 0, none⟩)) (hy : a.eval y = .agg cells)
    {t : TypeId} {old : Array Value} (R : Row W g old t) (hi : (P.info? T).map (·.size) = some cells.size) (hold : old.size = cells.size) (h1 : cells.all (·.oneCell') = true) (hN : o.dst = none)
    (h : ∀ w1, Row w1 g cells t → Stored W g w1 → wpList P ops Q rest a w1) : wpList P ops Q (o :: rest) a W := by
  refine wpList_plain hgd fun K hK => wp_store_row T x y ho g cells hx hy t old R hi hold h1 ?_
  rw [hN]
  exact hK _ _ (h _ (setRow_heap W g old cells t _ R) (stored_setRow W g cells))
end
/-- what lies in a block -/
def rowOf (w : World) (g : Nat) : Array Value := match w.heap[g]? with | some (.cells c _ _) => c | _ => #[]
/-- the block is a row of n cells -/
def RowSz (w : World) (g n : Nat) : Prop := ∃ cs t, Row w g cs t ∧ cs.size = n
theorem Row.of {w : World} {g : Nat} {cs : Array Value} {t : TypeId} (h : Row w g cs t) : rowOf w g = cs := by unfold Row at h; unfold rowOf; rw [h]
theorem Row.sz {w : World} {g n : Nat} {cs : Array Value} {t : TypeId} (h : Row w g cs t) (hn : cs.size = n) : RowSz w g n := ⟨cs, t, h, hn⟩
def ptrBlock : Value → Nat
  | .pointer (some a) => a.block
  | _ => 0
theorem exec_load_row {P : Program} {T n : Nat} (d : TypeDesc) (hu : P.underlying T = some d) (hd : (match d with | .struct _ | .array _ _ => true | _ => false) = true) (hi : (P.info? T).map (·.size) = some n)
    (ρ : Operand → Value) (dst : Option Tmp) (x : Operand) (ty : TypeId) (pos : String) (after : Array Edge) (guard : Option (Nat × Bool)) (w : World)
    (hx : ρ x = .pointer (some ⟨ptrBlock (ρ x), 0, none⟩)) (h : RowSz w (ptrBlock (ρ x)) n) :
    (execOp ρ { dst := dst, op := .load T x, type := ty, pos := pos, after := after, guard := guard }).run P w = .ok (.value (.agg (rowOf w (ptrBlock (ρ x))))) w := by
  obtain ⟨cs, t, R, hs⟩ := h
  rw [R.of]
  generalize ptrBlock (ρ x) = g at *
  have hl := run_loadVar_row (P := P) w g t T cs (0, 0) d R hu hd (by rw [hs]; exact hi)
  have hr : (Instr.loadAt T (ρ x)).run P w = .ok (.agg cs) w := by
    rw [hx]
    simp only [Instr.loadAt, Instr.sureAddr, Sem.run_bind, Sem.run_pure, Result.andThen_ok, hl]
  show (do pure (Next.value (← Instr.loadAt T (ρ x)))).run P w = _
  simp only [Sem.run_bind, Sem.run_pure, Result.andThen_ok, hr]
end Go.Proofs.YtahagfdjpldblaaGreatDoor
