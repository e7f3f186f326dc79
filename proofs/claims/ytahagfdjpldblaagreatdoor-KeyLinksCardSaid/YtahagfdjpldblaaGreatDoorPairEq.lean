/-
  Equality of keys and of pairs of keys, as the program asks it.
-/
import Derived.Test.YtahagfdjpldblaaGreatDoorSmall
import Derived.Test.YtahagfdjpldblaaGreatDoorRegV
namespace Go.Proofs.YtahagfdjpldblaaGreatDoor
open Go.RowKit Ky
set_option linter.unusedVariables false
set_option linter.unusedSimpArgs false

theorem key_eq (a b : K) : a = b ↔ ((a.a : Int) = b.a ∧ (a.e : Int) = b.e ∧ (a.p : Int) = b.p) := by
  cases a; cases b
  simp
  omega
theorem key_if (a b : K) {α : Type} (r s : α) : (if (a.a : Int) = (b.a : Int) then if (a.e : Int) = (b.e : Int) then if (a.p : Int) = (b.p : Int) then r else s else s else s) = if a = b then r else s := by
  have h := key_eq a b
  by_cases h1 : (a.a : Int) = b.a
  · by_cases h2 : (a.e : Int) = b.e
    · by_cases h3 : (a.p : Int) = b.p
      · simp [h1, h2, h3, h]
      · simp [h1, h2, h3, h]
    · simp [h1, h2, h]
  · simp [h1, h]
theorem eq_key (a b : K) (d : Nat) (w : World) : (Op.equalIn (d + 2) 29 (.agg #[.int .u32 (a.a : Int), .int .u16 (a.e : Int), .int .u16 (a.p : Int)]) (.agg #[.int .u32 (b.a : Int), .int .u16 (b.e : Int), .int .u16 (b.p : Int)])).run Tryz.prog w = .ok (decide (a = b)) w := by
  have h := key_eq a b
  go_simp
  by_cases h1 : (a.a : Int) = b.a
  · by_cases h2 : (a.e : Int) = b.e
    · by_cases h3 : (a.p : Int) = b.p
      · simp [h1, h2, h3, h]
      · simp [h1, h2, h3, h]
    · simp [h1, h2, h]
  · simp [h1, h]
theorem eq_key10 (a b : K) (w : World) : (Op.equalIn 10000 29 (.agg #[.int .u32 (a.a : Int), .int .u16 (a.e : Int), .int .u16 (a.p : Int)]) (.agg #[.int .u32 (b.a : Int), .int .u16 (b.e : Int), .int .u16 (b.p : Int)])).run Tryz.prog w = .ok (decide (a = b)) w := eq_key a b 9998 w
theorem pair_eq (c x : K × K) : decide (c = x) = (decide (c.1 = x.1) && decide (c.2 = x.2)) := by
  obtain ⟨a, b⟩ := c
  obtain ⟨d, e⟩ := x
  simp [Bool.decide_and]
theorem eq_pair (c x : K × K) (w : World) : (Op.equalIn 10000 49 (.agg (pc c).toArray) (.agg (pc x).toArray)).run Tryz.prog w = .ok (decide (c = x)) w := by
  obtain ⟨i, hi⟩ : ∃ i, Tryz.prog.info? 29 = some i := info_of_underlying Tryz.underlying29
  have c0 : Tryz.prog.cellsOf 29 = 3 := by kernel_rfl
  rw [show 10000 = 9999 + 1 from rfl, run_equalIn_array w 9999 _ _ Tryz.underlying49 hi, c0]
  have e1 := fun w => eq_key c.1 x.1 9997 w
  have e2 := fun w => eq_key c.2 x.2 9997 w
  rw [show 9997 + 2 = 9999 from rfl] at e1 e2
  have p1 : ∀ (y : K × K) (w : World), (Go.part 29 (pc y).toArray (0 * 3)).run Tryz.prog w = .ok (.agg #[.int .u32 (y.1.a : Int), .int .u16 (y.1.e : Int), .int .u16 (y.1.p : Int)]) w := fun y w => by
    unfold pc
    go_simp
  have p2 : ∀ (y : K × K) (w : World), (Go.part 29 (pc y).toArray (1 * 3)).run Tryz.prog w = .ok (.agg #[.int .u32 (y.2.a : Int), .int .u16 (y.2.e : Int), .int .u16 (y.2.p : Int)]) w := fun y w => by
    unfold pc
    go_simp
  rw [pair_eq]
  show (Op.eqItems 9999 29 3 (pc c).toArray (pc x).toArray [0, 1]).run Tryz.prog w = _
  simp only [Op.eqItems, Sem.run_bind, p1, Result.andThen_ok, e1]
  cases decide (c.1 = x.1)
  · simp
  · simp only [Bool.not_true, Bool.false_eq_true, if_false, Sem.run_bind, p2, Result.andThen_ok, e2]
    cases decide (c.2 = x.2) <;> simp
theorem eql_key (a b : K) {ρ : Operand → Value} {o : Oper} {x y : Operand} (hop : o.op = .binOp .eql 29 x y 29) (hx : ρ x = .agg #[.int .u32 (a.a : Int), .int .u16 (a.e : Int), .int .u16 (a.p : Int)]) (hy : ρ y = .agg #[.int .u32 (b.a : Int), .int .u16 (b.e : Int), .int .u16 (b.p : Int)])
    {r : Bool} (hr : decide (a = b) = r) (w : World) : (execOp ρ o).run Tryz.prog w = .ok (.value (.bool r)) w := by
  have he := eq_key a b 9998 w
  rw [show 9998 + 2 = 10000 from rfl] at he
  have hm : Tryz.prog.eqGuardType Tryz.prog.depth 29 = false := by kernel_rfl
  unfold execOp
  simp only [hop, hx, hy, Sem.run_bind, run_eqGuard_agg w _ _ _ _ _ _ hm, Result.andThen_ok, run_eql_struct, he, hr]
  rfl
end Go.Proofs.YtahagfdjpldblaaGreatDoor
