/-
  Own texts, several in one (Par8, LText, LText2).
-/
import Derived.Test.YtbhjkddjgikaiaaGreatDoorMrg32
import Derived.Defers
import Derived.Recover
import Derived.RegionTactic
import Derived.Test.YtbhjkddjgikaiaaGreatDoorMrg27
namespace Go.Proofs.YtbhjkddjgikaiaaGreatDoor
open Go.RowKit
set_option linter.unusedVariables false
set_option linter.unusedSimpArgs false
theorem rest_any (k : Nat) (hk : k < 8) (g b ho pos : Nat) (l : List Lx.Tk) (W0 w : World) (hM : Glb13 W0) (hB : Below W0.heap.size W0 w) (hg0 : W0.heap.size ≤ g) (ho0 : W0.heap.size ≤ ho) (h : PsAt w g b l) (hE : Sc.Ended l) (hlen : l.length ≤ 70000) (R : Row w ho (opc (opK k pos) (.slice none 0 0) (.slice none 0 0)).toArray 48) (hgo : g ≠ ho) (hbo : b ≠ ho) :
    Calls Tryz.prog 51 #[.pointer (some ⟨g, 0, none⟩), .pointer (some ⟨ho, 0, none⟩)] w fun e w' => restR w.heap.size g b ho pos (Sc.restOf k l) e w' ∧ Only (two g ho) w w' := by
  rcases (show k = 0 ∨ k = 1 ∨ k = 2 ∨ k = 3 ∨ k = 4 ∨ k = 5 ∨ k = 6 ∨ k = 7 by omega) with rfl | rfl | rfl | rfl | rfl | rfl | rfl | rfl
  · exact rest_0 g b ho pos l W0 w hM hB hg0 ho0 h hE R hgo hbo
  · exact rest_1 g b ho pos l W0 w hM hB hg0 ho0 h hE R hgo hbo
  · exact rest_2 g b ho pos l W0 w hM hB hg0 ho0 h hE R hgo hbo
  · exact rest_3 g b ho pos l W0 w hM hB hg0 ho0 h hE R hgo hbo
  · exact rest_4 g b ho pos l W0 w hM hB hg0 ho0 h hE R hgo hbo
  · exact rest_5 g b ho pos l W0 w hM hB hg0 ho0 h hE R hgo hbo
  · exact rest_6 g b ho pos l W0 w hM hB hg0 ho0 h hE R hgo hbo
  · exact rest_7 g b ho pos l W0 w hM hB hg0 ho0 h hE hlen R hgo hbo
theorem wp_gen {P : Program} {c : Code} {Q : Exit → Act → World → Prop} {a : Act} {w : World} (h : ∀ Q', Q' = Q → c.wp P Q' a w) : c.wp P Q a w := h Q rfl
def three (g1 g2 g3 : Nat) : Nat → Prop := fun q => q = g1 ∨ q = g2 ∨ q = g3
set_option maxHeartbeats 4000000 in
set_option maxRecDepth 100000 in
theorem catch_idle (g1 g2 g3 : Nat) (w : World) :
    CallsD Tryz.prog 48 #[.pointer (some ⟨g1, 0, none⟩), .pointer (some ⟨g2, 0, none⟩), .pointer (some ⟨g3, 0, none⟩)] .returning w fun e u' w' => e = .returned (.tuple #[]) ∧ u' = .returning ∧ w' = w := by
  refine callsD_of_wpS Tryz.func48 rfl fun c₀ cs hu => ?_
  simp only [Tryz.ntmps48, List.size_toArray, List.length_cons, List.length_nil, Nat.reduceAdd, Nat.reduceSub, Array.replicate_succ, Array.replicate_zero, List.push_toArray, List.append_toArray, List.nil_append, List.cons_append]
  apply wpS_seq
  apply wpS_region
  simp [wpOpsS, go_sem, recoverD, hu, Exit.thenS]
  refine wpS_of_wp ?_
  refine wp_gen fun Q' hQ => ?_
  have HQ := Lib.hid hQ
  clear hQ
  go_wp2_with fail
  rw [HQ.out]
  cases c₀
  simp_all [bodyPostS, results, Tryz.results48]
set_option maxHeartbeats 4000000 in
set_option maxRecDepth 100000 in
theorem catch_stop (g1 g2 g3 p er : Nat) (older : List PanicEntry) (v1 : Value) (x2 x3 : Int) (w : World) (R1 : Row w g1 #[v1] 26) (R2 : Row w g2 #[.int .i64 x2] 3) (R3 : Row w g3 #[.int .i64 x3] 27) (h12 : g1 ≠ g2) (h13 : g1 ≠ g3) (h23 : g2 ≠ g3) :
    CallsD Tryz.prog 48 #[.pointer (some ⟨g1, 0, none⟩), .pointer (some ⟨g2, 0, none⟩), .pointer (some ⟨g3, 0, none⟩)] (.panicking ({ v := .iface 106 (.agg #[.int .i64 (p : Int), .int .i64 (er : Int)]), recovered := false } :: older)) w fun e u' w' => e = .returned (.tuple #[]) ∧ u' = .panicking ({ v := .iface 106 (.agg #[.int .i64 (p : Int), .int .i64 (er : Int)]), recovered := true } :: older) ∧ (Row w' g1 #[.slice none 0 0] 26 ∧ Row w' g2 #[.int .i64 (p : Int)] 3 ∧ Row w' g3 #[.int .i64 (er : Int)] 27) ∧ Only (three g1 g2 g3) w w' := by
  refine callsD_of_wpS Tryz.func48 rfl fun c₀ cs hu => ?_
  simp only [Tryz.ntmps48, List.size_toArray, List.length_cons, List.length_nil, Nat.reduceAdd, Nat.reduceSub, Array.replicate_succ, Array.replicate_zero, List.push_toArray, List.append_toArray, List.nil_append, List.cons_append]
  apply wpS_seq
  apply wpS_region
  simp [wpOpsS, go_sem, recoverD, hu, Exit.thenS]
  refine wpS_of_wp ?_
  refine wp_gen fun Q' hQ => ?_
  have HQ := Lib.hid hQ
  clear hQ
  have hta : ∀ w, (Instr.typeAssert (.iface 106 (.agg #[.int .i64 (p : Int), .int .i64 (er : Int)])) 20 106 true).run Tryz.prog w = .ok (.tuple #[.agg #[.int .i64 (p : Int), .int .i64 (er : Int)], .bool true]) w := fun w => by kernel_rfl
  have c1 : w.cell? ⟨g1, 0, none⟩ = some v1 := R1.cell 0
  have c2 : w.cell? ⟨g2, 0, none⟩ = some (.int .i64 x2) := R2.cell 0
  have c3 : w.cell? ⟨g3, 0, none⟩ = some (.int .i64 x3) := R3.cell 0
  have z1 := R1.frozen 0
  have z2 := R2.frozen 0
  have z3 := R3.frozen 0
  go_wp2_with fail
  have RS := Row.new w #[.int .i64 (p : Int), .int .i64 (er : Int)] 106
  have Q1 := R1.alloc (.cells #[.int .i64 (p : Int), .int .i64 (er : Int)] 106)
  have Q2 := R2.alloc (.cells #[.int .i64 (p : Int), .int .i64 (er : Int)] 106)
  have Q3 := R3.alloc (.cells #[.int .i64 (p : Int), .int .i64 (er : Int)] 106)
  have OO := Lib.hid ((Only.refl (three g1 g2 g3) w).alloc (.cells #[.int .i64 (p : Int), .int .i64 (er : Int)] 106))
  have n1 : w.heap.size ≠ g1 := by have := R1.lt; omega
  have n2 : w.heap.size ≠ g2 := by have := R2.lt; omega
  have n3 : w.heap.size ≠ g3 := by have := R3.lt; omega
  clear hta c1 c2 c3 z1 z2 z3
  generalize w.alloc (.cells #[.int .i64 (p : Int), .int .i64 (er : Int)] 106) = w1 at *
  generalize w.heap.size = gs at *
  have c1 : w1.cell? ⟨g1, 0, none⟩ = some v1 := Q1.cell 0
  have c2 : w1.cell? ⟨g2, 0, none⟩ = some (.int .i64 x2) := Q2.cell 0
  have c3 : w1.cell? ⟨g3, 0, none⟩ = some (.int .i64 x3) := Q3.cell 0
  have c4 : w1.cell? ⟨gs, 0, none⟩ = some (.int .i64 (p : Int)) := RS.cell 0
  have c5 : w1.cell? ⟨gs, 1, none⟩ = some (.int .i64 (er : Int)) := RS.cell 1
  have z1 := Q1.frozen 0
  have z2 := Q2.frozen 0
  have z3 := Q3.frozen 0
  have m1 := n1.symm
  have m2 := n2.symm
  have m3 := n3.symm
  have h21 := h12.symm
  have h31 := h13.symm
  have h32 := h23.symm
  have HQ1 := Lib.hid Q1
  have HQ2 := Lib.hid Q2
  have HQ3 := Lib.hid Q3
  clear R1 R2 R3 Q1 Q2 Q3 RS
  go_region
  rw [HQ.out]
  have O1 := HQ1.out.set 0 (.slice none 0 0)
  have RA := ((HQ1.out.set 0 (.slice none 0 0)).other ⟨g2, 0, none⟩ h12 (.int .i64 (p : Int))).other ⟨g3, 0, none⟩ h13 (.int .i64 (er : Int))
  have RB := ((HQ2.out.other ⟨g1, 0, none⟩ h21 (.slice none 0 0)).set 0 (.int .i64 (p : Int))).other ⟨g3, 0, none⟩ h23 (.int .i64 (er : Int))
  have RC := ((HQ3.out.other ⟨g1, 0, none⟩ h31 (.slice none 0 0)).other ⟨g2, 0, none⟩ h32 (.int .i64 (p : Int))).set 0 (.int .i64 (er : Int))
  exact ⟨rfl, _, rfl, .tuple #[], results_none rfl _ _ _, rfl, rfl, ⟨RA.drew, RB.drew, RC.drew⟩, (((OO.out.setCell (p := ⟨g1, 0, none⟩) (.inl (.inl rfl)) _).setCell (p := ⟨g2, 0, none⟩) (.inl (.inr (.inl rfl))) _).setCell (p := ⟨g3, 0, none⟩) (.inl (.inr (.inr rfl))) _).drew⟩
end Go.Proofs.YtbhjkddjgikaiaaGreatDoor

namespace Go.Proofs.YtbhjkddjgikaiaaGreatDoor
open Go.RowKit
set_option linter.unusedVariables false
set_option linter.unusedSimpArgs false

end Go.Proofs.YtbhjkddjgikaiaaGreatDoor

namespace Go.Proofs.YtbhjkddjgikaiaaGreatDoor
open Go.RowKit
set_option linter.unusedVariables false
set_option linter.unusedSimpArgs false

end Go.Proofs.YtbhjkddjgikaiaaGreatDoor
