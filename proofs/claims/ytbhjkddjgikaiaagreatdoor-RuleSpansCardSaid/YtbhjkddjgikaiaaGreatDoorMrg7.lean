/-
  Own texts, several in one (ShareP, MoneyS, Slice).
-/
import Derived.Test.YtbhjkddjgikaiaaGreatDoorMrg2
import Derived.ChangeSlices
import Derived.WideShapes
import Derived.OpenShut
import Derived.Below
namespace Go.Proofs.YtbhjkddjgikaiaaGreatDoor
open Go.RowKit
set_option linter.unusedVariables false
set_option linter.unusedSimpArgs false

set_option maxHeartbeats 1000000 in
theorem product_even (S w0 : Nat) (hS : S ≤ 9223372036854775808) (hw : w0 ≤ 1000000) (he : S % 2 = 0) (w : World) :
    Calls Tryz.prog 287 #[.int .u64 (S : Int), .int .i64 (w0 : Int)] w fun e w' => e = .returned (.agg #[.int .i64 (Wd.hi ((S * w0 : Nat) : Int)), .int .u64 (Wd.lo ((S * w0 : Nat) : Int))]) ∧ Below w.heap.size w w' := by
  have e1 : bits .and .u64 (S : Int) 1 = 0 := by rw [Wd.and_one S (by omega), he]; rfl
  have ed : (S : Int) / 2 * (w0 : Int) + (S : Int) / 2 * (w0 : Int) = ((S * w0 : Nat) : Int) := by
    obtain ⟨h, rfl⟩ : ∃ h, S = 2 * h := ⟨S / 2, by omega⟩
    rw [show ((2 * h : Nat) : Int) / 2 = (h : Int) by omega, Int.natCast_mul, Int.natCast_mul, Int.mul_assoc]
    show _ = 2 * _
    omega
  have ew : (S : Int) / 2 ≤ 4611686018427387904 := by omega
  have en : (0 : Int) ≤ (S : Int) / 2 := by omega
  have hm := Lib.hid (mul_any ((S : Int) / 2) (w0 : Int) · (by unfold Wd.I64; omega) (by unfold Wd.I64; omega))
  have ha := Lib.hid (add_any ((S : Int) / 2 * (w0 : Int)) ((S : Int) / 2 * (w0 : Int)))
  rw [ed] at ha
  clear ed he
  generalize (S : Int) / 2 * (w0 : Int) = pr at *
  generalize ((S * w0 : Nat) : Int) = res at *
  go_enter Tryz.func287, Tryz.ntmps287
  go_wp2_with fail
  refine (hm.out _).mono ?_
  rintro _ w1 ⟨rfl, hb1⟩
  have R1 := (Row.new w #[.int .i64 0, .int .u64 0] 329).below hb1
  have hB1 := below_then ((Below.refl _ w).alloc (Nat.le_refl _) _) hb1
  clear hb1
  go_wp2_with fail
  have R1' := R1.alloc (Obj.cells #[Value.int IntKind.i64 (Wd.hi pr), Value.int IntKind.u64 (Wd.lo pr)] 329)
  have hB1' := below_alloc hB1 (Obj.cells #[Value.int IntKind.i64 (Wd.hi pr), Value.int IntKind.u64 (Wd.lo pr)] 329)
  refine (ha.out _).mono ?_
  rintro _ w2 ⟨rfl, hb2⟩
  have R2 := R1'.below hb2
  have hB2 := below_then hB1' hb2
  clear hb2 R1' hB1' R1 hB1
  have k0 : w2.cell? ⟨w.heap.size, 0, none⟩ = some (.int .i64 0) := R2.cell 0
  have k1 : w2.cell? ⟨w.heap.size, 1, none⟩ = some (.int .u64 0) := R2.cell 1
  have f0 := R2.frozen 0
  have f1 := R2.frozen 1
  have hlt := R2.lt
  go_wp2
  exact bodyPost_ret (v := .agg #[.int .i64 (Wd.hi res), .int .u64 (Wd.lo res)]) (res_row rfl _ _ (((R2.set 0 _).set 1 _).alloc _) rfl Tryz.underlying329 rfl (by kernel_rfl)) rfl ⟨rfl, below_alloc (below_set (below_set hB2 (Nat.le_refl _) _ _) (Nat.le_refl _) _ _) _⟩

set_option maxHeartbeats 1000000 in
theorem product_odd (S w0 : Nat) (hS : S ≤ 9223372036854775808) (hw : w0 ≤ 1000000) (he : S % 2 = 1) (w : World) :
    Calls Tryz.prog 287 #[.int .u64 (S : Int), .int .i64 (w0 : Int)] w fun e w' => e = .returned (.agg #[.int .i64 (Wd.hi ((S * w0 : Nat) : Int)), .int .u64 (Wd.lo ((S * w0 : Nat) : Int))]) ∧ Below w.heap.size w w' := by
  have e1 : bits .and .u64 (S : Int) 1 = 1 := by rw [Wd.and_one S (by omega), he]; rfl
  have ed : ((S : Int) / 2 * (w0 : Int) + (S : Int) / 2 * (w0 : Int)) + (w0 : Int) = ((S * w0 : Nat) : Int) := by
    obtain ⟨h, rfl⟩ : ∃ h, S = 2 * h + 1 := ⟨S / 2, by omega⟩
    rw [show ((2 * h + 1 : Nat) : Int) / 2 = (h : Int) by omega, Int.natCast_mul, show ((2 * h + 1 : Nat) : Int) = 2 * (h : Int) + 1 by omega, Int.add_mul, Int.mul_assoc]
    omega
  have ew : (S : Int) / 2 ≤ 4611686018427387904 := by omega
  have en : (0 : Int) ≤ (S : Int) / 2 := by omega
  have hm := Lib.hid (mul_any ((S : Int) / 2) (w0 : Int) · (by unfold Wd.I64; omega) (by unfold Wd.I64; omega))
  have ha := Lib.hid (add_any ((S : Int) / 2 * (w0 : Int)) ((S : Int) / 2 * (w0 : Int)))
  have hc := Lib.hid (add_any ((S : Int) / 2 * (w0 : Int) + (S : Int) / 2 * (w0 : Int)) (w0 : Int))
  rw [ed] at hc
  have ho := Lib.hid (of_any (w0 : Int) (by unfold Wd.I64; omega))
  clear ed he
  generalize (S : Int) / 2 * (w0 : Int) + (S : Int) / 2 * (w0 : Int) = pr2 at *
  generalize (S : Int) / 2 * (w0 : Int) = pr at *
  generalize ((S * w0 : Nat) : Int) = res at *
  go_enter Tryz.func287, Tryz.ntmps287
  go_wp2_with fail
  refine (hm.out _).mono ?_
  rintro _ w1 ⟨rfl, hb1⟩
  have R1 := (Row.new w #[.int .i64 0, .int .u64 0] 329).below hb1
  have hB1 := below_then ((Below.refl _ w).alloc (Nat.le_refl _) _) hb1
  clear hb1
  go_wp2_with fail
  have R1' := R1.alloc (Obj.cells #[Value.int IntKind.i64 (Wd.hi pr), Value.int IntKind.u64 (Wd.lo pr)] 329)
  have hB1' := below_alloc hB1 (Obj.cells #[Value.int IntKind.i64 (Wd.hi pr), Value.int IntKind.u64 (Wd.lo pr)] 329)
  refine (ha.out _).mono ?_
  rintro _ w2 ⟨rfl, hb2⟩
  have R2 := R1'.below hb2
  have hB2 := below_then hB1' hb2
  clear hb2 R1' hB1' R1 hB1
  have k0 : w2.cell? ⟨w.heap.size, 0, none⟩ = some (.int .i64 0) := R2.cell 0
  have k1 : w2.cell? ⟨w.heap.size, 1, none⟩ = some (.int .u64 0) := R2.cell 1
  have f0 := R2.frozen 0
  have f1 := R2.frozen 1
  have hlt := R2.lt
  go_wp2_with fail
  have R3 := R2.alloc (Obj.cells #[Value.int IntKind.i64 (Wd.hi pr2), Value.int IntKind.u64 (Wd.lo pr2)] 329)
  have R6 := Row.new w2 #[Value.int IntKind.i64 (Wd.hi pr2), Value.int IntKind.u64 (Wd.lo pr2)] 329
  have hB3 := below_alloc hB2 (Obj.cells #[Value.int IntKind.i64 (Wd.hi pr2), Value.int IntKind.u64 (Wd.lo pr2)] 329)
  clear k0 k1 f0 f1 R2 hB2
  generalize hw3 : w2.alloc (Obj.cells #[Value.int IntKind.i64 (Wd.hi pr2), Value.int IntKind.u64 (Wd.lo pr2)] 329) = w3 at *
  generalize hg6 : w2.heap.size = g6 at *
  clear hw3 hg6
  have d0 : w3.drew.cell? ⟨g6, 0, none⟩ = some (.int .i64 (Wd.hi pr2)) := R6.cell 0
  have d1 : w3.drew.cell? ⟨g6, 1, none⟩ = some (.int .u64 (Wd.lo pr2)) := R6.cell 1
  have q0 : w3.drew.frozen? ⟨g6, 0, none⟩ = false := R6.frozen 0
  have q1 : w3.drew.frozen? ⟨g6, 1, none⟩ = false := R6.frozen 1
  have D0 := Lib.hid d0
  have D1 := Lib.hid d1
  have Q0 := Lib.hid q0
  have Q1 := Lib.hid q1
  have c0 : w3.cell? ⟨g6, 0, none⟩ = some (.int .i64 (Wd.hi pr2)) := R6.cell 0
  have c1 : w3.cell? ⟨g6, 1, none⟩ = some (.int .u64 (Wd.lo pr2)) := R6.cell 1
  clear d0 d1 q0 q1
  go_region_with (first | (go_at_call 265; refine (ho.out _).mono ?_; rintro e wx ⟨rfl, hb⟩; have a0 := cell_then D0.out hb; have a1 := cell_then D1.out hb; have a2 := frozen_then D0.out Q0.out hb; have a3 := frozen_then D1.out Q1.out hb) | (go_at_call 264; refine (hc.out _).mono ?_; rintro e wy ⟨rfl, hb2⟩; have b0 := cell_then a0 hb2; have b1 := cell_then a1 hb2; have b2 := frozen_then a0 a2 hb2; have b3 := frozen_then a1 a3 hb2))
  all_goals
    have RR := ((((show Row w3.drew w.heap.size _ _ from R3).below hb).below hb2).other ⟨g6, 0, none⟩ (by simp; omega) (.int .i64 (Wd.hi res))).other ⟨g6, 1, none⟩ (by simp; omega) (.int .u64 (Wd.lo res))
    have RG := ((((show Row w3.drew g6 _ _ from R6).below hb).below hb2).set 0 (.int .i64 (Wd.hi res))).set 1 (.int .u64 (Wd.lo res))
    have BB := below_set (below_set (below_then (below_then (show Below w.heap.size w w3.drew from hB3.drew) hb) hb2) (show w.heap.size ≤ g6 by omega) 0 (.int .i64 (Wd.hi res))) (show w.heap.size ≤ g6 by omega) 1 (.int .u64 (Wd.lo res))
    have k0 := RR.cell 0
    have k1 := RR.cell 1
    have f0 := RR.frozen 0
    have f1 := RR.frozen 1
    have l0 := RG.cell 0
    have l1 := RG.cell 1
    clear a0 a1 a2 a3 b0 b1 b2 b3 D0 D1 Q0 Q1 c0 c1 hb hb2 R3 R6 hB3
    go_wp2
    exact bodyPost_ret (v := .agg #[.int .i64 (Wd.hi res), .int .u64 (Wd.lo res)]) (res_row rfl _ _ ((RR.set 0 _).set 1 _) rfl Tryz.underlying329 rfl (by kernel_rfl)) rfl ⟨rfl, below_set (below_set BB (Nat.le_refl _) _ _) (Nat.le_refl _) _ _⟩

theorem product_any (S w0 : Nat) (hS : S ≤ 9223372036854775808) (hw : w0 ≤ 1000000) (w : World) :
    Calls Tryz.prog 287 #[.int .u64 (S : Int), .int .i64 (w0 : Int)] w fun e w' => e = .returned (.agg #[.int .i64 (Wd.hi ((S * w0 : Nat) : Int)), .int .u64 (Wd.lo ((S * w0 : Nat) : Int))]) ∧ Below w.heap.size w w' := by
  rcases Nat.mod_two_eq_zero_or_one S with h | h
  · exact product_even S w0 hS hw h w
  · exact product_odd S w0 hS hw h w
end Go.Proofs.YtbhjkddjgikaiaaGreatDoor

namespace Go.Proofs.YtbhjkddjgikaiaaGreatDoor
open Go.RowKit
set_option linter.unusedVariables false
set_option linter.unusedSimpArgs false

/-- the numbers of a slice that is not empty lie in memory -/
def Nums (w : World) (b off : Nat) (zs : List Int) : Prop := ∀ i, i < zs.length → w.cell? ⟨b, off + i, none⟩ = some (.int .i64 (zs.getD i 0))
theorem Nums.below {w w' : World} {b off : Nat} {zs : List Int} (h : Nums w b off zs) (hb : Below w.heap.size w w') : Nums w' b off zs := fun i hi => cell_then (h i hi) hb
end Go.Proofs.YtbhjkddjgikaiaaGreatDoor

namespace Go.Proofs.YtbhjkddjgikaiaaGreatDoor
open Go.ChangeShapes Go.WideShapes Go.RowKit
set_option linter.unusedVariables false
set_option linter.unusedSimpArgs false

def IsNums (w : World) (a : Option Addr) (len : Nat) (zs : List Int) : Prop := zs.length = len ∧ (∀ z ∈ zs, Wd.I64 z) ∧ (len = 0 ∨ ∃ b off, a = some ⟨b, off, none⟩ ∧ Nums w b off zs)
theorem IsNums.below {w w' : World} {a : Option Addr} {len : Nat} {zs : List Int} (h : IsNums w a len zs) (hb : Below w.heap.size w w') : IsNums w' a len zs := by
  obtain ⟨h1, h2, h3⟩ := h
  refine ⟨h1, h2, ?_⟩
  rcases h3 with h3 | ⟨b, off, e, h3⟩
  · exact .inl h3
  · exact .inr ⟨b, off, e, h3.below hb⟩
end Go.Proofs.YtbhjkddjgikaiaaGreatDoor
