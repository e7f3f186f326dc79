/-
  Own texts, several in one (Par8, LText, LText2).
-/
import Derived.Test.YtbhjkddjgikaiaaGreatDoorMrg33
import Derived.Defers
import Derived.Recover
import Derived.RegionTactic
import Derived.Test.YtbhjkddjgikaiaaGreatDoorMrg28
namespace Go.Proofs.YtbhjkddjgikaiaaGreatDoor
open Go.RowKit
set_option linter.unusedVariables false
set_option linter.unusedSimpArgs false
theorem rest_any (k : Nat) (hk : k < 8) (g b ho pos : Nat) (l : List Lx.Tk) (W0 w : World) (hM : Glb13 W0) (hB : Below W0.heap.size W0 w) (hg0 : W0.heap.size ≤ g) (ho0 : W0.heap.size ≤ ho) (h : PsAt w g b l) (hE : Sc.Ended l) (hlen : l.length ≤ 70000) (R : Row w ho (opc (opK k pos) (.slice none 0 0) (.slice none 0 0)).toArray 48) (hgo : g ≠ ho) (hbo : b ≠ ho) :
    Calls Tryz.prog 51 #[.pointer (some ⟨g, 0, none⟩), .pointer (some ⟨ho, 0, none⟩)] w fun e w' => restR w.heap.size g b ho pos (Sc.restOf k l) e w' ∧ Only (two g ho) w w' := by
  rcases (show k = 0 ∨ k = 1 ∨ k = 2 ∨ k = 3 ∨ k = 4 ∨ k = 5 ∨ k = 6 ∨ k = 7 by omega) with rfl | rfl | rfl | rfl | rfl | rfl | rfl | rfl
  · exact rest_0 g b ho pos l W0 w hM hB hg0 ho0 h hE R hgo hbo
  · exact rest_1 g b ho pos l W0 w hM hB hg0 ho0 h hE R hgo hbo
  · exact rest_2 g b ho pos l W0 w hM hB hg0 ho0 h hE R hgo hbo
  · exact rest_3 g b ho pos l W0 w hM hB hg0 ho0 h hE R hgo hbo
  · exact rest_4 g b ho pos l W0 w hM hB hg0 ho0 h hE R hgo hbo
  · exact rest_5 g b ho pos l W0 w hM hB hg0 ho0 h hE R hgo hbo
  · exact rest_6 g b ho pos l W0 w hM hB hg0 ho0 h hE R hgo hbo
  · exact rest_7 g b ho pos l W0 w hM hB hg0 ho0 h hE hlen R hgo hbo
theorem wp_gen {P : Program} {c : Code} {Q : Exit → Act → World → Prop} {a : Act} {w : World} (h : ∀ Q', Q' = Q → c.wp P Q' a w) : c.wp P Q a w := h Q rfl
def three (g1 g2 g3 : Nat) : Nat → Prop := fun q => q = g1 ∨ q = g2 ∨ q = g3
set_option maxHeartbeats 4000000 in
set_option maxRecDepth 100000 in
theorem catch_idle (g1 g2 g3 : Nat) (w : World) :
    CallsD Tryz.prog 48 #[.pointer (some ⟨g1, 0, none⟩), .pointer (some ⟨g2, 0, none⟩), .pointer (some ⟨g3, 0, none⟩)] .returning w fun e u' w' => e = .returned (.tuple #[]) ∧ u' = .returning ∧ w' = w := by
  refine callsD_of_wpS Tryz.func48 rfl fun c₀ cs hu => ?_
  simp only [Tryz.ntmps48, List.size_toArray, List.length_cons, List.length_nil, Nat.reduceAdd, Nat.reduceSub, Array.replicate_succ, Array.replicate_zero, List.push_toArray, List.append_toArray, List.nil_append, List.cons_append]
  apply wpS_seq
  apply wpS_region
  simp [wpOpsS, go_sem, recoverD, hu, Exit.thenS]
  refine wpS_of_wp ?_
  refine wp_gen fun Q' hQ => ?_
  have HQ := Lib.hid hQ
  clear hQ
  go_wp2_with fail
  rw [HQ.out]
  cases c₀
  simp_all [bodyPostS, results, Tryz.results48]
set_option maxHeartbeats 4000000 in
set_option maxRecDepth 100000 in
theorem catch_stop (g1 g2 g3 p er : Nat) (older : List PanicEntry) (v1 : Value) (x2 x3 : Int) (w : World) (R1 : Row w g1 #[v1] 26) (R2 : Row w g2 #[.int .i64 x2] 3) (R3 : Row w g3 #[.int .i64 x3] 27) (h12 : g1 ≠ g2) (h13 : g1 ≠ g3) (h23 : g2 ≠ g3) :
    CallsD Tryz.prog 48 #[.pointer (some ⟨g1, 0, none⟩), .pointer (some ⟨g2, 0, none⟩), .pointer (some ⟨g3, 0, none⟩)] (.panicking ({ v := .iface 106 (.agg #[.int .i64 (p : Int), .int .i64 (er : Int)]), recovered := false } :: older)) w fun e u' w' => e = .returned (.tuple #[]) ∧ u' = .panicking ({ v := .iface 106 (.agg #[.int .i64 (p : Int), .int .i64 (er : Int)]), recovered := true } :: older) ∧ (Row w' g1 #[.slice none 0 0] 26 ∧ Row w' g2 #[.int .i64 (p : Int)] 3 ∧ Row w' g3 #[.int .i64 (er : Int)] 27) ∧ Only (three g1 g2 g3) w w' := by
  refine callsD_of_wpS Tryz.func48 rfl fun c₀ cs hu => ?_
  simp only [Tryz.ntmps48, List.size_toArray, List.length_cons, List.length_nil, Nat.reduceAdd, Nat.reduceSub, Array.replicate_succ, Array.replicate_zero, List.push_toArray, List.append_toArray, List.nil_append, List.cons_append]
  apply wpS_seq
  apply wpS_region
  simp [wpOpsS, go_sem, recoverD, hu, Exit.thenS]
  refine wpS_of_wp ?_
  refine wp_gen fun Q' hQ => ?_
  have HQ := Lib.hid hQ
  clear hQ
  have hta : ∀ w, (Instr.typeAssert (.iface 106 (.agg #[.int .i64 (p : Int), .int .i64 (er : Int)])) 20 106 true).run Tryz.prog w = .ok (.tuple #[.agg #[.int .i64 (p : Int), .int .i64 (er : Int)], .bool true]) w := fun w => by kernel_rfl
  have c1 : w.cell? ⟨g1, 0, none⟩ = some v1 := R1.cell 0
  have c2 : w.cell? ⟨g2, 0, none⟩ = some (.int .i64 x2) := R2.cell 0
  have c3 : w.cell? ⟨g3, 0, none⟩ = some (.int .i64 x3) := R3.cell 0
  have z1 := R1.frozen 0
  have z2 := R2.frozen 0
  have z3 := R3.frozen 0
  go_wp2_with fail
  have RS := Row.new w #[.int .i64 (p : Int), .int .i64 (er : Int)] 106
  have Q1 := R1.alloc (.cells #[.int .i64 (p : Int), .int .i64 (er : Int)] 106)
  have Q2 := R2.alloc (.cells #[.int .i64 (p : Int), .int .i64 (er : Int)] 106)
  have Q3 := R3.alloc (.cells #[.int .i64 (p : Int), .int .i64 (er : Int)] 106)
  have OO := Lib.hid ((Only.refl (three g1 g2 g3) w).alloc (.cells #[.int .i64 (p : Int), .int .i64 (er : Int)] 106))
  have n1 : w.heap.size ≠ g1 := by have := R1.lt; omega
  have n2 : w.heap.size ≠ g2 := by have := R2.lt; omega
  have n3 : w.heap.size ≠ g3 := by have := R3.lt; omega
  clear hta c1 c2 c3 z1 z2 z3
  generalize w.alloc (.cells #[.int .i64 (p : Int), .int .i64 (er : Int)] 106) = w1 at *
  generalize w.heap.size = gs at *
  have c1 : w1.cell? ⟨g1, 0, none⟩ = some v1 := Q1.cell 0
  have c2 : w1.cell? ⟨g2, 0, none⟩ = some (.int .i64 x2) := Q2.cell 0
  have c3 : w1.cell? ⟨g3, 0, none⟩ = some (.int .i64 x3) := Q3.cell 0
  have c4 : w1.cell? ⟨gs, 0, none⟩ = some (.int .i64 (p : Int)) := RS.cell 0
  have c5 : w1.cell? ⟨gs, 1, none⟩ = some (.int .i64 (er : Int)) := RS.cell 1
  have z1 := Q1.frozen 0
  have z2 := Q2.frozen 0
  have z3 := Q3.frozen 0
  have m1 := n1.symm
  have m2 := n2.symm
  have m3 := n3.symm
  have h21 := h12.symm
  have h31 := h13.symm
  have h32 := h23.symm
  have HQ1 := Lib.hid Q1
  have HQ2 := Lib.hid Q2
  have HQ3 := Lib.hid Q3
  clear R1 R2 R3 Q1 Q2 Q3 RS
  go_region
  rw [HQ.out]
  have O1 := HQ1.out.set 0 (.slice none 0 0)
  have RA := ((HQ1.out.set 0 (.slice none 0 0)).other ⟨g2, 0, none⟩ h12 (.int .i64 (p : Int))).other ⟨g3, 0, none⟩ h13 (.int .i64 (er : Int))
  have RB := ((HQ2.out.other ⟨g1, 0, none⟩ h21 (.slice none 0 0)).set 0 (.int .i64 (p : Int))).other ⟨g3, 0, none⟩ h23 (.int .i64 (er : Int))
  have RC := ((HQ3.out.other ⟨g1, 0, none⟩ h31 (.slice none 0 0)).other ⟨g2, 0, none⟩ h32 (.int .i64 (p : Int))).set 0 (.int .i64 (er : Int))
  exact ⟨rfl, _, rfl, .tuple #[], results_none rfl _ _ _, rfl, rfl, ⟨RA.drew, RB.drew, RC.drew⟩, (((OO.out.setCell (p := ⟨g1, 0, none⟩) (.inl (.inl rfl)) _).setCell (p := ⟨g2, 0, none⟩) (.inl (.inr (.inl rfl))) _).setCell (p := ⟨g3, 0, none⟩) (.inl (.inr (.inr rfl))) _).drew⟩
end Go.Proofs.YtbhjkddjgikaiaaGreatDoor

namespace Go.Proofs.YtbhjkddjgikaiaaGreatDoor
open Go.RowKit
set_option linter.unusedVariables false
set_option linter.unusedSimpArgs false

theorem text1_any (n : Nat) (h : n ≤ 4294967295) (w : World) (hG : Glb w) :
    Calls Tryz.prog 62 #[.int .u32 (n : Int)] w fun e w' => e = .returned (.string ⟨(Sc.dec n).toArray⟩) ∧ Below w.heap.size w w' := by
  have hi := itoa_any (n : Int) (by unfold Wd.I64; omega) w hG
  rw [Lib.itoa_nonneg] at hi
  have HI : Hid (Calls Tryz.prog 23 #[.int .i64 (n : Int)] w fun e w' => e = .returned (.string ⟨(Sc.dec n).toArray⟩) ∧ Below w.heap.size w w') := Lib.hid hi
  have e1 : IntKind.i64.wrap (n : Int) = (n : Int) := by rw [IntKind.wrap_i64]; omega
  clear hG hi h
  go_enter Tryz.func62, Tryz.ntmps62
  go_wp2_with fail
  refine HI.out.mono ?_
  rintro _ w1 ⟨rfl, hb⟩
  go_wp2
  go_ret
  exact ⟨rfl, hb⟩
theorem quiet1 {S : World → Prop} (hS : ∀ w w', S w → Below w.heap.size w w' → S w') {f : FuncId} {args : Array Value} {v : Value} (n : QW S) (h : Calls Tryz.prog f args n.w fun e w' => e = .returned v ∧ Below n.w.heap.size n.w w') :
    Calls Tryz.prog f args n.w fun e w'' => e = .returned v ∧ ∃ m : QW S, w'' = m.w := Calls.quietS (h.mono fun _ w' ⟨a, b⟩ => ⟨a, hS _ _ n.h b⟩)
theorem str5 (a b : List UInt8) (x y z : List UInt8) : (⟨x.toArray⟩ : ByteArray) ++ ⟨a.toArray⟩ ++ ⟨y.toArray⟩ ++ ⟨b.toArray⟩ ++ ⟨z.toArray⟩ = ⟨(x ++ (a ++ (y ++ (b ++ z)))).toArray⟩ := by
  apply ByteArray.ext
  simp
set_option maxHeartbeats 4000000 in
set_option maxRecDepth 100000 in
theorem ltext_0 (o : Sc.Op) (vp vs : Value) (ho : o.can) (hk : o.kind = 0) (w : World) (hM : Glb13 w) :
    Calls Tryz.prog 20 #[.agg (opc o vp vs).toArray] w fun e w' => e = .returned (.string ⟨(Sc.text Dy.text o).toArray⟩) ∧ Below w.heap.size w w' := by
  have HM := Lib.hid hM
  have hx : Sc.text Dy.text o = [114, 101, 110, 117, 109, 98, 101, 114, 32] ++ (Sc.dec o.fr ++ ([32, 116, 111, 32] ++ (Sc.dec o.too ++ [59]))) := by
    unfold Sc.text
    rw [if_neg (by omega), if_neg (by omega), if_neg (by omega), hk]
    simp [Sc.word, Sc.words, Sc.link, Sc.links]
  rw [hx]
  have HF := Lib.hid fun W hW => text1_any o.fr ho.fr W hW
  have HT := Lib.hid fun W hW => text1_any o.too ho.too W hW
  have b1 : (Sc.dec o.fr).length ≤ 20 := dec_len _ (by have := ho.fr; omega)
  have b2 : (Sc.dec o.too).length ≤ 20 := dec_len _ (by have := ho.too; omega)
  have H5 := Lib.hid (str5 (Sc.dec o.fr) (Sc.dec o.too) [114, 101, 110, 117, 109, 98, 101, 114, 32] [32, 116, 111, 32] [59])
  clear hM hx
  unfold opc
  rw [hk, show ((0 : Nat) : Int) = 0 from rfl]
  generalize Sc.dec o.fr = x3 at *
  generalize Sc.dec o.too = x4 at *
  go_enter Tryz.func20, Tryz.ntmps20
  go_wp2_with fail
  have HBX := Lib.hid (below_alloc (Below.refl _ w) (.cells #[.int .i64 0, .int .u32 (o.fr : Int), .int .u32 (o.too : Int), .string ⟨o.name.toArray⟩, vp, vs, .int .i32 o.fin, .int .i64 (o.pos : Int)] 48))
  have RX := Row.new w #[.int .i64 0, .int .u32 (o.fr : Int), .int .u32 (o.too : Int), .string ⟨o.name.toArray⟩, vp, vs, .int .i32 o.fin, .int .i64 (o.pos : Int)] 48
  obtain ⟨gx, hgx⟩ : ∃ g, g = w.heap.size := ⟨_, rfl⟩
  rw [← hgx] at RX ⊢
  generalize w.alloc (.cells #[.int .i64 0, .int .u32 (o.fr : Int), .int .u32 (o.too : Int), .string ⟨o.name.toArray⟩, vp, vs, .int .i32 o.fin, .int .i64 (o.pos : Int)] 48) = wr at *
  have HRX := Lib.hid RX
  have d1 : ∀ n : QW (fun w' => Below wr.heap.size wr w'), n.w.cell? ⟨gx, 1, none⟩ = some (.int .u32 (o.fr : Int)) := fun n => (HRX.out.below n.h).cell 1
  have d2 : ∀ n : QW (fun w' => Below wr.heap.size wr w'), n.w.cell? ⟨gx, 2, none⟩ = some (.int .u32 (o.too : Int)) := fun n => (HRX.out.below n.h).cell 2
  have l0 : 9 + x3.length ≤ 9223372036854775807 := by omega
  have l1 : 9 + x3.length + 4 ≤ 9223372036854775807 := by omega
  have l2 : 9 + x3.length + 4 + x4.length ≤ 9223372036854775807 := by omega
  have l3 : 9 + x3.length + 4 + x4.length + 1 ≤ 9223372036854775807 := by omega
  have H1 := Lib.hid fun n : QW (fun w' => Below wr.heap.size wr w') => quiet1 (fun _ _ a b => below_then a b) n (HF.out n.w ((HM.out.below (below_then HBX.out n.h)).g5.glb))
  have H2 := Lib.hid fun n : QW (fun w' => Below wr.heap.size wr w') => quiet1 (fun _ _ a b => below_then a b) n (HT.out n.w ((HM.out.below (below_then HBX.out n.h)).g5.glb))
  clear RX hgx
  refine region_quietS (fun w' => Below wr.heap.size wr w') (by kernel_rfl) (by kernel_rfl) (below_dr (Below.refl _ _)) (fun hne => ?_)
  repeat (go_big_quiet_step (first | (with_reducible exact H1.out _) | (with_reducible exact H2.out _)))
  refine wpQuiet_nil ?_
  intro _ hw'
  obtain ⟨⟨wy, S⟩, rfl⟩ := hw'
  have HB := Lib.hid (below_then HBX.out S)
  clear d1 d2 l0 l1 l2 l3
  go_wp2_with fail
  go_ret
  exact ⟨congrArg (fun x => Ending.returned (Value.string x)) H5.out, HB.out⟩
set_option maxHeartbeats 4000000 in
set_option maxRecDepth 100000 in
theorem ltext_2 (o : Sc.Op) (vp vs : Value) (ho : o.can) (hk : o.kind = 2) (w : World) (hM : Glb13 w) :
    Calls Tryz.prog 20 #[.agg (opc o vp vs).toArray] w fun e w' => e = .returned (.string ⟨(Sc.text Dy.text o).toArray⟩) ∧ Below w.heap.size w w' := by
  have HM := Lib.hid hM
  have hx : Sc.text Dy.text o = [114, 101, 112, 97, 114, 101, 110, 116, 32] ++ (Sc.dec o.fr ++ ([32, 117, 110, 100, 101, 114, 32] ++ (Sc.dec o.too ++ [59]))) := by
    unfold Sc.text
    rw [if_neg (by omega), if_neg (by omega), if_neg (by omega), hk]
    simp [Sc.word, Sc.words, Sc.link, Sc.links]
  rw [hx]
  have HF := Lib.hid fun W hW => text1_any o.fr ho.fr W hW
  have HT := Lib.hid fun W hW => text1_any o.too ho.too W hW
  have b1 : (Sc.dec o.fr).length ≤ 20 := dec_len _ (by have := ho.fr; omega)
  have b2 : (Sc.dec o.too).length ≤ 20 := dec_len _ (by have := ho.too; omega)
  have H5 := Lib.hid (str5 (Sc.dec o.fr) (Sc.dec o.too) [114, 101, 112, 97, 114, 101, 110, 116, 32] [32, 117, 110, 100, 101, 114, 32] [59])
  clear hM hx
  unfold opc
  rw [hk, show ((2 : Nat) : Int) = 2 from rfl]
  generalize Sc.dec o.fr = x3 at *
  generalize Sc.dec o.too = x4 at *
  go_enter Tryz.func20, Tryz.ntmps20
  go_wp2_with fail
  have HBX := Lib.hid (below_alloc (Below.refl _ w) (.cells #[.int .i64 2, .int .u32 (o.fr : Int), .int .u32 (o.too : Int), .string ⟨o.name.toArray⟩, vp, vs, .int .i32 o.fin, .int .i64 (o.pos : Int)] 48))
  have RX := Row.new w #[.int .i64 2, .int .u32 (o.fr : Int), .int .u32 (o.too : Int), .string ⟨o.name.toArray⟩, vp, vs, .int .i32 o.fin, .int .i64 (o.pos : Int)] 48
  obtain ⟨gx, hgx⟩ : ∃ g, g = w.heap.size := ⟨_, rfl⟩
  rw [← hgx] at RX ⊢
  generalize w.alloc (.cells #[.int .i64 2, .int .u32 (o.fr : Int), .int .u32 (o.too : Int), .string ⟨o.name.toArray⟩, vp, vs, .int .i32 o.fin, .int .i64 (o.pos : Int)] 48) = wr at *
  have HRX := Lib.hid RX
  have d1 : ∀ n : QW (fun w' => Below wr.heap.size wr w'), n.w.cell? ⟨gx, 1, none⟩ = some (.int .u32 (o.fr : Int)) := fun n => (HRX.out.below n.h).cell 1
  have d2 : ∀ n : QW (fun w' => Below wr.heap.size wr w'), n.w.cell? ⟨gx, 2, none⟩ = some (.int .u32 (o.too : Int)) := fun n => (HRX.out.below n.h).cell 2
  have l0 : 9 + x3.length ≤ 9223372036854775807 := by omega
  have l1 : 9 + x3.length + 7 ≤ 9223372036854775807 := by omega
  have l2 : 9 + x3.length + 7 + x4.length ≤ 9223372036854775807 := by omega
  have l3 : 9 + x3.length + 7 + x4.length + 1 ≤ 9223372036854775807 := by omega
  have H1 := Lib.hid fun n : QW (fun w' => Below wr.heap.size wr w') => quiet1 (fun _ _ a b => below_then a b) n (HF.out n.w ((HM.out.below (below_then HBX.out n.h)).g5.glb))
  have H2 := Lib.hid fun n : QW (fun w' => Below wr.heap.size wr w') => quiet1 (fun _ _ a b => below_then a b) n (HT.out n.w ((HM.out.below (below_then HBX.out n.h)).g5.glb))
  clear RX hgx
  refine region_quietS (fun w' => Below wr.heap.size wr w') (by kernel_rfl) (by kernel_rfl) (below_dr (Below.refl _ _)) (fun hne => ?_)
  repeat (go_big_quiet_step (first | (with_reducible exact H1.out _) | (with_reducible exact H2.out _)))
  refine wpQuiet_nil ?_
  intro _ hw'
  obtain ⟨⟨wy, S⟩, rfl⟩ := hw'
  have HB := Lib.hid (below_then HBX.out S)
  clear d1 d2 l0 l1 l2 l3
  go_wp2_with fail
  go_ret
  exact ⟨congrArg (fun x => Ending.returned (Value.string x)) H5.out, HB.out⟩
set_option maxHeartbeats 4000000 in
set_option maxRecDepth 100000 in
theorem ltext_3 (o : Sc.Op) (vp vs : Value) (ho : o.can) (hk : o.kind = 3) (w : World) (hM : Glb13 w) :
    Calls Tryz.prog 20 #[.agg (opc o vp vs).toArray] w fun e w' => e = .returned (.string ⟨(Sc.text Dy.text o).toArray⟩) ∧ Below w.heap.size w w' := by
  have HM := Lib.hid hM
  have hx : Sc.text Dy.text o = [109, 101, 114, 103, 101, 32] ++ (Sc.dec o.fr ++ ([32, 105, 110, 116, 111, 32] ++ (Sc.dec o.too ++ [59]))) := by
    unfold Sc.text
    rw [if_neg (by omega), if_neg (by omega), if_neg (by omega), hk]
    simp [Sc.word, Sc.words, Sc.link, Sc.links]
  rw [hx]
  have HF := Lib.hid fun W hW => text1_any o.fr ho.fr W hW
  have HT := Lib.hid fun W hW => text1_any o.too ho.too W hW
  have b1 : (Sc.dec o.fr).length ≤ 20 := dec_len _ (by have := ho.fr; omega)
  have b2 : (Sc.dec o.too).length ≤ 20 := dec_len _ (by have := ho.too; omega)
  have H5 := Lib.hid (str5 (Sc.dec o.fr) (Sc.dec o.too) [109, 101, 114, 103, 101, 32] [32, 105, 110, 116, 111, 32] [59])
  clear hM hx
  unfold opc
  rw [hk, show ((3 : Nat) : Int) = 3 from rfl]
  generalize Sc.dec o.fr = x3 at *
  generalize Sc.dec o.too = x4 at *
  go_enter Tryz.func20, Tryz.ntmps20
  go_wp2_with fail
  have HBX := Lib.hid (below_alloc (Below.refl _ w) (.cells #[.int .i64 3, .int .u32 (o.fr : Int), .int .u32 (o.too : Int), .string ⟨o.name.toArray⟩, vp, vs, .int .i32 o.fin, .int .i64 (o.pos : Int)] 48))
  have RX := Row.new w #[.int .i64 3, .int .u32 (o.fr : Int), .int .u32 (o.too : Int), .string ⟨o.name.toArray⟩, vp, vs, .int .i32 o.fin, .int .i64 (o.pos : Int)] 48
  obtain ⟨gx, hgx⟩ : ∃ g, g = w.heap.size := ⟨_, rfl⟩
  rw [← hgx] at RX ⊢
  generalize w.alloc (.cells #[.int .i64 3, .int .u32 (o.fr : Int), .int .u32 (o.too : Int), .string ⟨o.name.toArray⟩, vp, vs, .int .i32 o.fin, .int .i64 (o.pos : Int)] 48) = wr at *
  have HRX := Lib.hid RX
  have d1 : ∀ n : QW (fun w' => Below wr.heap.size wr w'), n.w.cell? ⟨gx, 1, none⟩ = some (.int .u32 (o.fr : Int)) := fun n => (HRX.out.below n.h).cell 1
  have d2 : ∀ n : QW (fun w' => Below wr.heap.size wr w'), n.w.cell? ⟨gx, 2, none⟩ = some (.int .u32 (o.too : Int)) := fun n => (HRX.out.below n.h).cell 2
  have l0 : 6 + x3.length ≤ 9223372036854775807 := by omega
  have l1 : 6 + x3.length + 6 ≤ 9223372036854775807 := by omega
  have l2 : 6 + x3.length + 6 + x4.length ≤ 9223372036854775807 := by omega
  have l3 : 6 + x3.length + 6 + x4.length + 1 ≤ 9223372036854775807 := by omega
  have H1 := Lib.hid fun n : QW (fun w' => Below wr.heap.size wr w') => quiet1 (fun _ _ a b => below_then a b) n (HF.out n.w ((HM.out.below (below_then HBX.out n.h)).g5.glb))
  have H2 := Lib.hid fun n : QW (fun w' => Below wr.heap.size wr w') => quiet1 (fun _ _ a b => below_then a b) n (HT.out n.w ((HM.out.below (below_then HBX.out n.h)).g5.glb))
  clear RX hgx
  refine region_quietS (fun w' => Below wr.heap.size wr w') (by kernel_rfl) (by kernel_rfl) (below_dr (Below.refl _ _)) (fun hne => ?_)
  repeat (go_big_quiet_step (first | (with_reducible exact H1.out _) | (with_reducible exact H2.out _)))
  refine wpQuiet_nil ?_
  intro _ hw'
  obtain ⟨⟨wy, S⟩, rfl⟩ := hw'
  have HB := Lib.hid (below_then HBX.out S)
  clear d1 d2 l0 l1 l2 l3
  go_wp2_with fail
  go_ret
  exact ⟨congrArg (fun x => Ending.returned (Value.string x)) H5.out, HB.out⟩
set_option maxHeartbeats 4000000 in
set_option maxRecDepth 100000 in
theorem ltext_5 (o : Sc.Op) (vp vs : Value) (ho : o.can) (hk : o.kind = 5) (w : World) (hM : Glb13 w) :
    Calls Tryz.prog 20 #[.agg (opc o vp vs).toArray] w fun e w' => e = .returned (.string ⟨(Sc.text Dy.text o).toArray⟩) ∧ Below w.heap.size w w' := by
  have HM := Lib.hid hM
  have hx : Sc.text Dy.text o = [114, 101, 99, 111, 100, 101, 32] ++ (Sc.dec o.fr ++ ([32, 116, 111, 32] ++ (Sc.dec o.too ++ [59]))) := by
    unfold Sc.text
    rw [if_neg (by omega), if_neg (by omega), if_neg (by omega), hk]
    simp [Sc.word, Sc.words, Sc.link, Sc.links]
  rw [hx]
  have HF := Lib.hid fun W hW => text1_any o.fr ho.fr W hW
  have HT := Lib.hid fun W hW => text1_any o.too ho.too W hW
  have b1 : (Sc.dec o.fr).length ≤ 20 := dec_len _ (by have := ho.fr; omega)
  have b2 : (Sc.dec o.too).length ≤ 20 := dec_len _ (by have := ho.too; omega)
  have H5 := Lib.hid (str5 (Sc.dec o.fr) (Sc.dec o.too) [114, 101, 99, 111, 100, 101, 32] [32, 116, 111, 32] [59])
  clear hM hx
  unfold opc
  rw [hk, show ((5 : Nat) : Int) = 5 from rfl]
  generalize Sc.dec o.fr = x3 at *
  generalize Sc.dec o.too = x4 at *
  go_enter Tryz.func20, Tryz.ntmps20
  go_wp2_with fail
  have HBX := Lib.hid (below_alloc (Below.refl _ w) (.cells #[.int .i64 5, .int .u32 (o.fr : Int), .int .u32 (o.too : Int), .string ⟨o.name.toArray⟩, vp, vs, .int .i32 o.fin, .int .i64 (o.pos : Int)] 48))
  have RX := Row.new w #[.int .i64 5, .int .u32 (o.fr : Int), .int .u32 (o.too : Int), .string ⟨o.name.toArray⟩, vp, vs, .int .i32 o.fin, .int .i64 (o.pos : Int)] 48
  obtain ⟨gx, hgx⟩ : ∃ g, g = w.heap.size := ⟨_, rfl⟩
  rw [← hgx] at RX ⊢
  generalize w.alloc (.cells #[.int .i64 5, .int .u32 (o.fr : Int), .int .u32 (o.too : Int), .string ⟨o.name.toArray⟩, vp, vs, .int .i32 o.fin, .int .i64 (o.pos : Int)] 48) = wr at *
  have HRX := Lib.hid RX
  have d1 : ∀ n : QW (fun w' => Below wr.heap.size wr w'), n.w.cell? ⟨gx, 1, none⟩ = some (.int .u32 (o.fr : Int)) := fun n => (HRX.out.below n.h).cell 1
  have d2 : ∀ n : QW (fun w' => Below wr.heap.size wr w'), n.w.cell? ⟨gx, 2, none⟩ = some (.int .u32 (o.too : Int)) := fun n => (HRX.out.below n.h).cell 2
  have l0 : 7 + x3.length ≤ 9223372036854775807 := by omega
  have l1 : 7 + x3.length + 4 ≤ 9223372036854775807 := by omega
  have l2 : 7 + x3.length + 4 + x4.length ≤ 9223372036854775807 := by omega
  have l3 : 7 + x3.length + 4 + x4.length + 1 ≤ 9223372036854775807 := by omega
  have H1 := Lib.hid fun n : QW (fun w' => Below wr.heap.size wr w') => quiet1 (fun _ _ a b => below_then a b) n (HF.out n.w ((HM.out.below (below_then HBX.out n.h)).g5.glb))
  have H2 := Lib.hid fun n : QW (fun w' => Below wr.heap.size wr w') => quiet1 (fun _ _ a b => below_then a b) n (HT.out n.w ((HM.out.below (below_then HBX.out n.h)).g5.glb))
  clear RX hgx
  refine region_quietS (fun w' => Below wr.heap.size wr w') (by kernel_rfl) (by kernel_rfl) (below_dr (Below.refl _ _)) (fun hne => ?_)
  repeat (go_big_quiet_step (first | (with_reducible exact H1.out _) | (with_reducible exact H2.out _)))
  refine wpQuiet_nil ?_
  intro _ hw'
  obtain ⟨⟨wy, S⟩, rfl⟩ := hw'
  have HB := Lib.hid (below_then HBX.out S)
  clear d1 d2 l0 l1 l2 l3
  go_wp2_with fail
  go_ret
  exact ⟨congrArg (fun x => Ending.returned (Value.string x)) H5.out, HB.out⟩
set_option maxHeartbeats 4000000 in
set_option maxRecDepth 100000 in
theorem ltext_6 (o : Sc.Op) (vp vs : Value) (ho : o.can) (hk : o.kind = 6) (w : World) (hM : Glb13 w) :
    Calls Tryz.prog 20 #[.agg (opc o vp vs).toArray] w fun e w' => e = .returned (.string ⟨(Sc.text Dy.text o).toArray⟩) ∧ Below w.heap.size w w' := by
  have HM := Lib.hid hM
  have hx : Sc.text Dy.text o = [106, 111, 105, 110, 32] ++ (Sc.dec o.fr ++ ([32, 105, 110, 116, 111, 32] ++ (Sc.dec o.too ++ [59]))) := by
    unfold Sc.text
    rw [if_neg (by omega), if_neg (by omega), if_neg (by omega), hk]
    simp [Sc.word, Sc.words, Sc.link, Sc.links]
  rw [hx]
  have HF := Lib.hid fun W hW => text1_any o.fr ho.fr W hW
  have HT := Lib.hid fun W hW => text1_any o.too ho.too W hW
  have b1 : (Sc.dec o.fr).length ≤ 20 := dec_len _ (by have := ho.fr; omega)
  have b2 : (Sc.dec o.too).length ≤ 20 := dec_len _ (by have := ho.too; omega)
  have H5 := Lib.hid (str5 (Sc.dec o.fr) (Sc.dec o.too) [106, 111, 105, 110, 32] [32, 105, 110, 116, 111, 32] [59])
  clear hM hx
  unfold opc
  rw [hk, show ((6 : Nat) : Int) = 6 from rfl]
  generalize Sc.dec o.fr = x3 at *
  generalize Sc.dec o.too = x4 at *
  go_enter Tryz.func20, Tryz.ntmps20
  go_wp2_with fail
  have HBX := Lib.hid (below_alloc (Below.refl _ w) (.cells #[.int .i64 6, .int .u32 (o.fr : Int), .int .u32 (o.too : Int), .string ⟨o.name.toArray⟩, vp, vs, .int .i32 o.fin, .int .i64 (o.pos : Int)] 48))
  have RX := Row.new w #[.int .i64 6, .int .u32 (o.fr : Int), .int .u32 (o.too : Int), .string ⟨o.name.toArray⟩, vp, vs, .int .i32 o.fin, .int .i64 (o.pos : Int)] 48
  obtain ⟨gx, hgx⟩ : ∃ g, g = w.heap.size := ⟨_, rfl⟩
  rw [← hgx] at RX ⊢
  generalize w.alloc (.cells #[.int .i64 6, .int .u32 (o.fr : Int), .int .u32 (o.too : Int), .string ⟨o.name.toArray⟩, vp, vs, .int .i32 o.fin, .int .i64 (o.pos : Int)] 48) = wr at *
  have HRX := Lib.hid RX
  have d1 : ∀ n : QW (fun w' => Below wr.heap.size wr w'), n.w.cell? ⟨gx, 1, none⟩ = some (.int .u32 (o.fr : Int)) := fun n => (HRX.out.below n.h).cell 1
  have d2 : ∀ n : QW (fun w' => Below wr.heap.size wr w'), n.w.cell? ⟨gx, 2, none⟩ = some (.int .u32 (o.too : Int)) := fun n => (HRX.out.below n.h).cell 2
  have l0 : 5 + x3.length ≤ 9223372036854775807 := by omega
  have l1 : 5 + x3.length + 6 ≤ 9223372036854775807 := by omega
  have l2 : 5 + x3.length + 6 + x4.length ≤ 9223372036854775807 := by omega
  have l3 : 5 + x3.length + 6 + x4.length + 1 ≤ 9223372036854775807 := by omega
  have H1 := Lib.hid fun n : QW (fun w' => Below wr.heap.size wr w') => quiet1 (fun _ _ a b => below_then a b) n (HF.out n.w ((HM.out.below (below_then HBX.out n.h)).g5.glb))
  have H2 := Lib.hid fun n : QW (fun w' => Below wr.heap.size wr w') => quiet1 (fun _ _ a b => below_then a b) n (HT.out n.w ((HM.out.below (below_then HBX.out n.h)).g5.glb))
  clear RX hgx
  refine region_quietS (fun w' => Below wr.heap.size wr w') (by kernel_rfl) (by kernel_rfl) (below_dr (Below.refl _ _)) (fun hne => ?_)
  repeat (go_big_quiet_step (first | (with_reducible exact H1.out _) | (with_reducible exact H2.out _)))
  refine wpQuiet_nil ?_
  intro _ hw'
  obtain ⟨⟨wy, S⟩, rfl⟩ := hw'
  have HB := Lib.hid (below_then HBX.out S)
  clear d1 d2 l0 l1 l2 l3
  go_wp2_with fail
  go_ret
  exact ⟨congrArg (fun x => Ending.returned (Value.string x)) H5.out, HB.out⟩
set_option maxHeartbeats 4000000 in
set_option maxRecDepth 100000 in
theorem ltext_1 (o : Sc.Op) (vp vs : Value) (ho : o.can) (hk : o.kind = 1) (w : World) (hM : Glb13 w) :
    Calls Tryz.prog 20 #[.agg (opc o vp vs).toArray] w fun e w' => e = .returned (.string ⟨(Sc.text Dy.text o).toArray⟩) ∧ Below w.heap.size w w' := by
  have HM := Lib.hid hM
  have hx : Sc.text Dy.text o = [114, 101, 110, 97, 109, 101, 32] ++ (Sc.dec o.fr ++ ([32, 34] ++ (o.name ++ [34, 59]))) := by
    unfold Sc.text
    rw [if_pos hk]
    simp [Sc.word, Sc.words]
  rw [hx]
  have HF := Lib.hid fun W hW => text1_any o.fr ho.fr W hW
  have b1 : (Sc.dec o.fr).length ≤ 20 := dec_len _ (by have := ho.fr; omega)
  have b2 := ho.name
  have H5 := Lib.hid (str5 (Sc.dec o.fr) o.name [114, 101, 110, 97, 109, 101, 32] [32, 34] [34, 59])
  clear hM hx
  unfold opc
  rw [hk, show ((1 : Nat) : Int) = 1 from rfl]
  generalize Sc.dec o.fr = x3 at *
  go_enter Tryz.func20, Tryz.ntmps20
  go_wp2_with fail
  have HBX := Lib.hid (below_alloc (Below.refl _ w) (.cells #[.int .i64 1, .int .u32 (o.fr : Int), .int .u32 (o.too : Int), .string ⟨o.name.toArray⟩, vp, vs, .int .i32 o.fin, .int .i64 (o.pos : Int)] 48))
  have RX := Row.new w #[.int .i64 1, .int .u32 (o.fr : Int), .int .u32 (o.too : Int), .string ⟨o.name.toArray⟩, vp, vs, .int .i32 o.fin, .int .i64 (o.pos : Int)] 48
  obtain ⟨gx, hgx⟩ : ∃ g, g = w.heap.size := ⟨_, rfl⟩
  rw [← hgx] at RX ⊢
  generalize w.alloc (.cells #[.int .i64 1, .int .u32 (o.fr : Int), .int .u32 (o.too : Int), .string ⟨o.name.toArray⟩, vp, vs, .int .i32 o.fin, .int .i64 (o.pos : Int)] 48) = wr at *
  have HRX := Lib.hid RX
  have d1 : ∀ n : QW (fun w' => Below wr.heap.size wr w'), n.w.cell? ⟨gx, 1, none⟩ = some (.int .u32 (o.fr : Int)) := fun n => (HRX.out.below n.h).cell 1
  have d2 : ∀ n : QW (fun w' => Below wr.heap.size wr w'), n.w.cell? ⟨gx, 3, none⟩ = some (.string ⟨o.name.toArray⟩) := fun n => (HRX.out.below n.h).cell 3
  have l0 : 7 + x3.length ≤ 9223372036854775807 := by omega
  have l1 : 7 + x3.length + 2 ≤ 9223372036854775807 := by omega
  have l2 : 7 + x3.length + 2 + o.name.length ≤ 9223372036854775807 := by omega
  have l3 : 7 + x3.length + 2 + o.name.length + 2 ≤ 9223372036854775807 := by omega
  have H1 := Lib.hid fun n : QW (fun w' => Below wr.heap.size wr w') => quiet1 (fun _ _ a b => below_then a b) n (HF.out n.w ((HM.out.below (below_then HBX.out n.h)).g5.glb))
  clear RX hgx
  refine region_quietS (fun w' => Below wr.heap.size wr w') (by kernel_rfl) (by kernel_rfl) (below_dr (Below.refl _ _)) (fun hne => ?_)
  repeat (go_big_quiet_step ((with_reducible exact H1.out _)))
  refine wpQuiet_nil ?_
  intro _ hw'
  obtain ⟨⟨wy, S⟩, rfl⟩ := hw'
  have HB := Lib.hid (below_then HBX.out S)
  clear d1 d2 l0 l1 l2 l3
  go_wp2_with fail
  go_ret
  exact ⟨congrArg (fun x => Ending.returned (Value.string x)) H5.out, HB.out⟩
end Go.Proofs.YtbhjkddjgikaiaaGreatDoor

namespace Go.Proofs.YtbhjkddjgikaiaaGreatDoor
open Go.RowKit
set_option linter.unusedVariables false
set_option linter.unusedSimpArgs false

theorem spart_len (q : Nat × Nat) (h : q.1 ≤ 4294967295 ∧ q.2 ≤ 4294967295) : (Sc.part q).length ≤ 42 := by
  have := prt_len q h
  unfold prt at this
  unfold Sc.part
  simp at this ⊢
  omega
theorem partsT_len (l : List (Nat × Nat)) (h : ∀ p ∈ l, p.1 ≤ 4294967295 ∧ p.2 ≤ 4294967295) : (Sc.partsT l).length ≤ 43 * l.length := by
  rcases l with _ | ⟨p, r⟩
  · simp [Sc.partsT]
  · have key : ∀ l : List (Nat × Nat), (∀ p ∈ l, p.1 ≤ 4294967295 ∧ p.2 ≤ 4294967295) → (l.flatMap fun q => 44 :: Sc.part q).length ≤ 43 * l.length := fun l => by
      induction l with
      | nil => intro _; simp
      | cons q r ih =>
        intro h
        have h1 := ih fun x hx => h x (List.mem_cons_of_mem _ hx)
        have h2 := spart_len q (h q (by simp))
        rw [List.flatMap_cons, List.length_append, List.length_cons, List.length_cons]
        omega
    have h1 := key r fun x hx => h x (List.mem_cons_of_mem _ hx)
    have h2 := spart_len p (h p (by simp))
    show (Sc.part p ++ r.flatMap fun q => 44 :: Sc.part q).length ≤ _
    rw [List.length_append, List.length_cons]
    omega
theorem parts_snoc (l : List (Nat × Nat)) (k : Nat) (h : k < l.length) : Sc.partsT (l.take (k + 1)) = Sc.partsT (l.take k) ++ ((if 0 < k then [44] else []) ++ Sc.part (l.getD k (0, 0))) := by
  rcases l with _ | ⟨p, r⟩
  · simp at h
  · rcases k with _ | k
    · simp [Sc.partsT]
    · have hk : k < r.length := by simpa using h
      rw [List.take_succ_cons, List.take_succ_cons]
      show Sc.part p ++ ((r.take (k + 1)).flatMap fun q => 44 :: Sc.part q) = (Sc.part p ++ (r.take k).flatMap fun q => 44 :: Sc.part q) ++ _
      rw [List.take_succ_eq_append_getElem hk, List.flatMap_append, if_pos (by omega), List.getD_cons_succ, List.getD_eq_getElem?_getD, List.getElem?_eq_getElem hk]
      simp
theorem take_partsT_len (l : List (Nat × Nat)) (k : Nat) (h : l.length ≤ 100 ∧ ∀ p ∈ l, p.1 ≤ 4294967295 ∧ p.2 ≤ 4294967295) : (Sc.partsT (l.take k)).length ≤ 4300 := by
  have h1 := partsT_len (l.take k) fun p hp => h.2 p (List.mem_of_mem_take hp)
  have h2 : (l.take k).length ≤ l.length := by rw [List.length_take]; omega
  omega
set_option maxHeartbeats 8000000 in
set_option maxRecDepth 100000 in
theorem ltext_4 (o : Sc.Op) (vp vs : Value) (ho : o.can) (hk : o.kind = 4) (w : World) (hP : PtsAt w vp o.parts) (hM : Glb13 w) :
    Calls Tryz.prog 20 #[.agg (opc o vp vs).toArray] w fun e w' => e = .returned (.string ⟨(Sc.text Dy.text o).toArray⟩) ∧ Below w.heap.size w w' := by
  have HM := Lib.hid hM
  have hx : Sc.text Dy.text o = ([115, 112, 108, 105, 116, 32] ++ (Sc.dec o.fr ++ [32, 105, 110, 116, 111])) ++ (Sc.partsT o.parts ++ [59]) := by
    unfold Sc.text
    rw [if_neg (by omega), if_pos hk]
    simp [Sc.word, Sc.words, Sc.link, Sc.links]
  rw [hx]
  have HF := Lib.hid fun W hW => text1_any o.fr ho.fr W hW
  have b1 : (Sc.dec o.fr).length ≤ 20 := dec_len _ (by have := ho.fr; omega)
  have HPL := Lib.hid ho.parts.2
  obtain ⟨pp, cp, rfl, hE⟩ := hP
  have HE := Lib.hid hE
  clear hM hx hE
  unfold opc
  rw [hk, show ((4 : Nat) : Int) = 4 from rfl]
  generalize Sc.dec o.fr = x3 at *
  have l0 : 6 + x3.length ≤ 9223372036854775807 := by omega
  have l1 : 6 + x3.length + 5 ≤ 9223372036854775807 := by omega
  go_enter Tryz.func20, Tryz.ntmps20
  go_wp2_with fail
  have HBX := Lib.hid (below_alloc (Below.refl _ w) (.cells #[.int .i64 4, .int .u32 (o.fr : Int), .int .u32 (o.too : Int), .string ⟨o.name.toArray⟩, .slice pp o.parts.length cp, vs, .int .i32 o.fin, .int .i64 (o.pos : Int)] 48))
  have RX := Row.new w #[.int .i64 4, .int .u32 (o.fr : Int), .int .u32 (o.too : Int), .string ⟨o.name.toArray⟩, .slice pp o.parts.length cp, vs, .int .i32 o.fin, .int .i64 (o.pos : Int)] 48
  obtain ⟨gx, hgx⟩ : ∃ g, g = w.heap.size := ⟨_, rfl⟩
  rw [← hgx] at RX ⊢
  generalize w.alloc (.cells #[.int .i64 4, .int .u32 (o.fr : Int), .int .u32 (o.too : Int), .string ⟨o.name.toArray⟩, .slice pp o.parts.length cp, vs, .int .i32 o.fin, .int .i64 (o.pos : Int)] 48) = wa at *
  refine (HF.out wa ((HM.out.below HBX.out).g5.glb)).mono ?_
  rintro _ wb ⟨rfl, hb⟩
  have HRX := Lib.hid (RX.below hb)
  have HBW := Lib.hid (below_then HBX.out hb)
  have c4 : wb.cell? ⟨gx, 4, none⟩ = some (.slice pp o.parts.length cp) := HRX.out.cell 4
  clear RX hgx hb
  go_wp2_with fail
  obtain ⟨xp, hxp⟩ : ∃ x, x = [115, 112, 108, 105, 116, 32] ++ (x3 ++ [32, 105, 110, 116, 111]) := ⟨_, rfl⟩
  have hpl : xp.length ≤ 100 := by rw [hxp]; simp; omega
  have HXP := Lib.hid hpl
  have HXQ0 := Lib.hid hxp
  clear c4 hpl l0 l1
  go_loopw [4, 105] (fun tv iv wr' => ∃ (k : Nat) (x : ByteArray), k ≤ o.parts.length ∧ iv = .int .i64 (k : Int) ∧ tv = .string x ∧ x.data.toList = xp ++ Sc.partsT (o.parts.take k) ∧ Below w.heap.size w wr' ∧ Row wr' gx #[.int .i64 4, .int .u32 (o.fr : Int), .int .u32 (o.too : Int), .string ⟨o.name.toArray⟩, .slice pp o.parts.length cp, vs, .int .i32 o.fin, .int .i64 (o.pos : Int)] 48) (fun _ iv _ => o.parts.length - (intOf iv).toNat)
  case atStart => exact ⟨0, _, by omega, rfl, rfl, by rw [hxp]; simp [Sc.partsT], HBW.out, HRX.out⟩
  case round =>
    obtain ⟨k, x, hk, rfl, rfl, hx, BB, RX3⟩ := hrel
    have HBW3 := Lib.hid BB
    have HRX3 := Lib.hid RX3
    have HXX := Lib.hid hx
    have hxs : x.size ≤ 5000 := by rw [size_data, hx, List.length_append]; have := take_partsT_len o.parts k HPL.out; have := HXP.out; omega
    clear BB RX3 hx hxp
    by_cases hlt : k < o.parts.length
    · obtain ⟨b, off, rfl, hc⟩ : ∃ b off, pp = some ⟨b, off, none⟩ ∧ ∀ i, i < o.parts.length → w.rangeAt b (off + i * 2) (ptv (o.parts.getD i (0, 0))) := by
        rcases HE.out with h | h
        · rw [h] at hlt; simp at hlt
        · exact h
      have ck := range_below (hc k hlt) HBW3.out
      have hq0 := HPL.out.2 _ (getD_mem (d := ((0 : Nat), (0 : Nat))) hlt)
      have i0 : (0 : Int) ≤ (k : Int) := by omega
      have i1 : (k : Int) < (o.parts.length : Int) := by omega
      have e1 : IntKind.i64.wrap ((k : Int) + 1) = (k : Int) + 1 := by have := HPL.out.1; rw [IntKind.wrap_i64]; omega
      have hst := parts_snoc o.parts k hlt
      have HI := Lib.hid hlt
      obtain ⟨q, hq⟩ : ∃ d, d = o.parts.getD k (0, 0) := ⟨_, rfl⟩
      rw [← hq] at ck hst hq0
      have c0 : wr.cell? ⟨b, off + k * 2, none⟩ = some (.int .u32 (q.1 : Int)) := ck 0 _ rfl
      have c1 : wr.cell? ⟨b, off + k * 2 + 1, none⟩ = some (.int .i64 (q.2 : Int)) := ck 1 _ rfl
      have HN1 := Lib.hid fun W hW => text1_any q.1 hq0.1 W hW
      have hn2 := fun W hW => itoa_any (q.2 : Int) (by unfold Wd.I64; omega) W hW
      rw [Lib.itoa_nonneg] at hn2
      have HN2 : Hid (∀ W, Glb W → Calls Tryz.prog 23 #[.int .i64 (q.2 : Int)] W fun e w' => e = .returned (.string ⟨(Sc.dec q.2).toArray⟩) ∧ Below W.heap.size W w') := Lib.hid hn2
      have HQL := Lib.hid (show (Sc.dec q.1).length ≤ 20 ∧ (Sc.dec q.2).length ≤ 20 from ⟨dec_len _ (by omega), dec_len _ (by omega)⟩)
      clear hc hlt hk hq ck hq0 hn2
      by_cases c : 0 < k
      · have lx : x.size + 1 ≤ 9223372036854775807 := by omega
        have HST : Hid (Sc.partsT (o.parts.take (k + 1)) = Sc.partsT (o.parts.take k) ++ ([44] ++ Sc.part q)) := Lib.hid (by rw [hst, if_pos c])
        have q0 : (0 : Int) < (k : Int) := by omega
        clear hst c
        go_wp2_with fail
        have R6 := Row.new wr #[.int .u32 (q.1 : Int), .int .i64 (q.2 : Int)] 126
        have B6 := below_alloc (Below.refl _ wr) (.cells #[.int .u32 (q.1 : Int), .int .i64 (q.2 : Int)] 126)
        obtain ⟨g6, hg6⟩ : ∃ g, g = wr.heap.size := ⟨_, rfl⟩
        rw [← hg6] at R6 ⊢
        generalize wr.alloc (.cells #[.int .u32 (q.1 : Int), .int .i64 (q.2 : Int)] 126) = wq at *
        have HR6 := Lib.hid R6
        have HBQ := Lib.hid (below_then HBW3.out B6)
        have HXQ := Lib.hid (HRX3.out.below B6)
        have d0 : ∀ n : QW (fun w' => Below wq.heap.size wq w'), n.w.cell? ⟨g6, 0, none⟩ = some (.int .u32 (q.1 : Int)) := fun n => (HR6.out.below n.h).cell 0
        have d1 : ∀ n : QW (fun w' => Below wq.heap.size wq w'), n.w.cell? ⟨g6, 1, none⟩ = some (.int .i64 (q.2 : Int)) := fun n => (HR6.out.below n.h).cell 1
        have l0 : 1 + (Sc.dec q.1).length ≤ 9223372036854775807 := by have := HQL.out; omega
        have l1 : 1 + (Sc.dec q.1).length + 1 ≤ 9223372036854775807 := by have := HQL.out; omega
        have l2 : 1 + (Sc.dec q.1).length + 1 + (Sc.dec q.2).length ≤ 9223372036854775807 := by have := HQL.out; omega
        have l3 : x.size + 1 + (1 + (Sc.dec q.1).length + 1 + (Sc.dec q.2).length) ≤ 9223372036854775807 := by have := HQL.out; omega
        have H1 := Lib.hid fun n : QW (fun w' => Below wq.heap.size wq w') => quiet1 (fun _ _ a b => below_then a b) n (HN1.out n.w ((HM.out.below (below_then HBQ.out n.h)).g5.glb))
        have H2 := Lib.hid fun n : QW (fun w' => Below wq.heap.size wq w') => quiet1 (fun _ _ a b => below_then a b) n (HN2.out n.w ((HM.out.below (below_then HBQ.out n.h)).g5.glb))
        clear R6 B6 hg6 c0 c1
        refine region_quietS (fun w' => Below wq.heap.size wq w') (by kernel_rfl) (by kernel_rfl) (below_dr (Below.refl _ _)) (fun hne => ?_)
        repeat (go_big_quiet_step (first | (with_reducible exact H1.out _) | (with_reducible exact H2.out _)))
        refine wpQuiet_nil ?_
        intro _ hw'
        obtain ⟨⟨wy, S⟩, rfl⟩ := hw'
        have HBY := Lib.hid (below_then HBQ.out S)
        have HXY := Lib.hid (HXQ.out.below S)
        clear d0 d1 l0 l1 l2 l3
        go_wp2_with fail
        exact ⟨⟨k + 1, _, HI.out, by simp, rfl, by rw [HST.out, ← List.append_assoc, ← HXX.out]; simp [Sc.part], HBY.out, HXY.out⟩, by have := HI.out; simp [intOf]; omega⟩
      ·
        have HST : Hid (Sc.partsT (o.parts.take (k + 1)) = Sc.partsT (o.parts.take k) ++ ([] ++ Sc.part q)) := Lib.hid (by rw [hst, if_neg c])
        have q0 : ¬ (0 : Int) < (k : Int) := by omega
        clear hst c
        go_wp2_with fail
        have R6 := Row.new wr #[.int .u32 (q.1 : Int), .int .i64 (q.2 : Int)] 126
        have B6 := below_alloc (Below.refl _ wr) (.cells #[.int .u32 (q.1 : Int), .int .i64 (q.2 : Int)] 126)
        obtain ⟨g6, hg6⟩ : ∃ g, g = wr.heap.size := ⟨_, rfl⟩
        rw [← hg6] at R6 ⊢
        generalize wr.alloc (.cells #[.int .u32 (q.1 : Int), .int .i64 (q.2 : Int)] 126) = wq at *
        have HR6 := Lib.hid R6
        have HBQ := Lib.hid (below_then HBW3.out B6)
        have HXQ := Lib.hid (HRX3.out.below B6)
        have d0 : ∀ n : QW (fun w' => Below wq.heap.size wq w'), n.w.cell? ⟨g6, 0, none⟩ = some (.int .u32 (q.1 : Int)) := fun n => (HR6.out.below n.h).cell 0
        have d1 : ∀ n : QW (fun w' => Below wq.heap.size wq w'), n.w.cell? ⟨g6, 1, none⟩ = some (.int .i64 (q.2 : Int)) := fun n => (HR6.out.below n.h).cell 1
        have l0 : 1 + (Sc.dec q.1).length ≤ 9223372036854775807 := by have := HQL.out; omega
        have l1 : 1 + (Sc.dec q.1).length + 1 ≤ 9223372036854775807 := by have := HQL.out; omega
        have l2 : 1 + (Sc.dec q.1).length + 1 + (Sc.dec q.2).length ≤ 9223372036854775807 := by have := HQL.out; omega
        have l3 : x.size + (1 + (Sc.dec q.1).length + 1 + (Sc.dec q.2).length) ≤ 9223372036854775807 := by have := HQL.out; omega
        have H1 := Lib.hid fun n : QW (fun w' => Below wq.heap.size wq w') => quiet1 (fun _ _ a b => below_then a b) n (HN1.out n.w ((HM.out.below (below_then HBQ.out n.h)).g5.glb))
        have H2 := Lib.hid fun n : QW (fun w' => Below wq.heap.size wq w') => quiet1 (fun _ _ a b => below_then a b) n (HN2.out n.w ((HM.out.below (below_then HBQ.out n.h)).g5.glb))
        clear R6 B6 hg6 c0 c1
        refine region_quietS (fun w' => Below wq.heap.size wq w') (by kernel_rfl) (by kernel_rfl) (below_dr (Below.refl _ _)) (fun hne => ?_)
        repeat (go_big_quiet_step (first | (with_reducible exact H1.out _) | (with_reducible exact H2.out _)))
        refine wpQuiet_nil ?_
        intro _ hw'
        obtain ⟨⟨wy, S⟩, rfl⟩ := hw'
        have HBY := Lib.hid (below_then HBQ.out S)
        have HXY := Lib.hid (HXQ.out.below S)
        clear d0 d1 l0 l1 l2 l3
        go_wp2_with fail
        exact ⟨⟨k + 1, _, HI.out, by simp, rfl, by rw [HST.out, ← List.append_assoc, ← HXX.out]; simp [Sc.part], HBY.out, HXY.out⟩, by have := HI.out; simp [intOf]; omega⟩
    · obtain rfl : k = o.parts.length := by omega
      have i1 : ¬ (o.parts.length : Int) < (o.parts.length : Int) := by omega
      have lx : x.size + 1 ≤ 9223372036854775807 := by omega
      clear hlt hk
      go_wp2
      go_ret
      refine ⟨?_, HBW3.out⟩
      have hxx := HXX.out
      rw [List.take_length, HXQ0.out] at hxx
      have e : x ++ (⟨#[59]⟩ : ByteArray) = ⟨(([115, 112, 108, 105, 116, 32] ++ (x3 ++ [32, 105, 110, 116, 111])) ++ (Sc.partsT o.parts ++ [59])).toArray⟩ := by
        apply ByteArray.ext
        rw [← Array.toList_inj]
        simp [hxx]
      refine (congrArg (fun x => Ending.returned (Value.string x)) e).trans ?_
      all_goals simp
set_option maxHeartbeats 8000000 in
set_option maxRecDepth 100000 in
theorem ltext_7 (o : Sc.Op) (vp vs : Value) (ho : o.can) (hk : o.kind = 7) (w : World) (hN : NsAt .i32 w vs o.starts) (hM : Glb13 w) :
    Calls Tryz.prog 20 #[.agg (opc o vp vs).toArray] w fun e w' => e = .returned (.string ⟨(Sc.text Dy.text o).toArray⟩) ∧ Below w.heap.size w w' := by
  have HM := Lib.hid hM
  have hx : Sc.text Dy.text o = (([99, 97, 108, 101, 110, 100, 97, 114] ++ o.starts.flatMap fun d => 32 :: Dy.text d) ++ [32, 117, 110, 116, 105, 108, 32]) ++ (Dy.text o.fin ++ [59]) := by
    unfold Sc.text
    rw [if_neg (by omega), if_neg (by omega), if_pos hk]
    simp [Sc.word, Sc.words, Sc.link, Sc.links]
  rw [hx]
  have HD := Lib.hid fun d W hW => dayText_any d W hW
  have HDL := Lib.hid dtext_len
  have HST := Lib.hid ho.starts
  have HNS := Lib.hid hN
  obtain ⟨ps, cs, rfl, _⟩ := HNS.out
  clear hM hx hN
  unfold opc
  rw [hk, show ((7 : Nat) : Int) = 7 from rfl]
  go_enter Tryz.func20, Tryz.ntmps20
  go_wp2_with fail
  have HBX := Lib.hid (below_alloc (Below.refl _ w) (.cells #[.int .i64 7, .int .u32 (o.fr : Int), .int .u32 (o.too : Int), .string ⟨o.name.toArray⟩, vp, .slice ps o.starts.length cs, .int .i32 o.fin, .int .i64 (o.pos : Int)] 48))
  have RX := Row.new w #[.int .i64 7, .int .u32 (o.fr : Int), .int .u32 (o.too : Int), .string ⟨o.name.toArray⟩, vp, .slice ps o.starts.length cs, .int .i32 o.fin, .int .i64 (o.pos : Int)] 48
  obtain ⟨gx, hgx⟩ : ∃ g, g = w.heap.size := ⟨_, rfl⟩
  rw [← hgx] at RX ⊢
  generalize w.alloc (.cells #[.int .i64 7, .int .u32 (o.fr : Int), .int .u32 (o.too : Int), .string ⟨o.name.toArray⟩, vp, .slice ps o.starts.length cs, .int .i32 o.fin, .int .i64 (o.pos : Int)] 48) = wa at *
  have HRX := Lib.hid RX
  clear hgx
  go_loopw [7, 133] (fun tv iv wr' => ∃ (k : Nat) (x : ByteArray), k ≤ o.starts.length ∧ iv = .int .i64 (k : Int) ∧ tv = .string x ∧ x.data.toList = [99, 97, 108, 101, 110, 100, 97, 114] ++ (o.starts.take k).flatMap (fun d => 32 :: Dy.text d) ∧ Below w.heap.size w wr' ∧ Row wr' gx #[.int .i64 7, .int .u32 (o.fr : Int), .int .u32 (o.too : Int), .string ⟨o.name.toArray⟩, vp, .slice ps o.starts.length cs, .int .i32 o.fin, .int .i64 (o.pos : Int)] 48) (fun _ iv _ => o.starts.length - (intOf iv).toNat)
  case atStart => exact ⟨0, _, by omega, rfl, rfl, rfl, HBX.out, HRX.out⟩
  case round =>
    obtain ⟨k, x, hk, rfl, rfl, hx, BB, RX3⟩ := hrel
    have HBW3 := Lib.hid BB
    have HRX3 := Lib.hid RX3
    have HXX := Lib.hid hx
    have hxs : x.size ≤ 5000 := by
      rw [size_data, hx, List.length_append]
      have h1 := flat_days (o.starts.take k)
      have h2 : (o.starts.take k).length ≤ o.starts.length := by rw [List.length_take]; omega
      have := HST.out
      simp only [List.length_cons, List.length_nil]
      omega
    clear BB RX3 hx
    by_cases hlt : k < o.starts.length
    · obtain ⟨b, off, rfl, hc⟩ : ∃ b off, ps = some ⟨b, off, none⟩ ∧ ∀ i, i < o.starts.length → w.cell? ⟨b, off + i, none⟩ = some (.int .i32 (o.starts.getD i 0)) := by
        have h := HNS.out
        obtain ⟨p, cap, e, h⟩ := h
        simp only [Value.slice.injEq, true_and] at e
        obtain ⟨rfl, rfl⟩ := e
        rcases h with h | h
        · rw [h] at hlt; simp at hlt
        · exact h
      have ck := cell_then (hc k hlt) HBW3.out
      have i0 : (0 : Int) ≤ (k : Int) := by omega
      have i1 : (k : Int) < (o.starts.length : Int) := by omega
      have e1 : IntKind.i64.wrap ((k : Int) + 1) = (k : Int) + 1 := by have := HST.out; rw [IntKind.wrap_i64]; omega
      have htk : (o.starts.take (k + 1)).flatMap (fun d => 32 :: Dy.text d) = (o.starts.take k).flatMap (fun d => 32 :: Dy.text d) ++ (32 :: Dy.text (o.starts.getD k 0)) := by
        rw [List.take_succ_eq_append_getElem hlt, List.flatMap_append, List.getD_eq_getElem?_getD, List.getElem?_eq_getElem hlt]
        simp
      have HTK := Lib.hid htk
      have HI := Lib.hid hlt
      obtain ⟨d, hd⟩ : ∃ d, d = o.starts.getD k 0 := ⟨_, rfl⟩
      rw [← hd] at ck HTK
      have hdl := HDL.out d
      clear hc htk hlt hk hd
      go_wp2_with fail
      refine (HD.out d wr ((HM.out.below HBW3.out).g5)).mono ?_
      rintro _ wz ⟨rfl, hbz⟩
      have HRz := Lib.hid (HRX3.out.below hbz)
      have HBz := Lib.hid (below_then HBW3.out hbz)
      obtain ⟨y, hy⟩ : ∃ y, y = Dy.text d := ⟨_, rfl⟩
      rw [← hy] at HTK hdl ⊢
      have l0 : 1 + y.length ≤ 9223372036854775807 := by omega
      have l1 : x.size + (1 + y.length) ≤ 9223372036854775807 := by omega
      clear hbz ck hy
      go_wp2_with fail
      exact ⟨⟨k + 1, _, HI.out, by simp, rfl, by rw [HTK.out, ← List.append_assoc, ← HXX.out]; simp, HBz.out, HRz.out⟩, by have := HI.out; simp [intOf]; omega⟩
    · obtain rfl : k = o.starts.length := by omega
      have i1 : ¬ (o.starts.length : Int) < (o.starts.length : Int) := by omega
      have c6 : wr.cell? ⟨gx, 6, none⟩ = some (.int .i32 o.fin) := HRX3.out.cell 6
      have l0 : x.size + 7 ≤ 9223372036854775807 := by omega
      clear hlt hk
      go_wp2_with fail
      refine (HD.out o.fin wr ((HM.out.below HBW3.out).g5)).mono ?_
      rintro _ wz ⟨rfl, hbz⟩
      have HBz := Lib.hid (below_then HBW3.out hbz)
      have hdl := HDL.out o.fin
      obtain ⟨y, hy⟩ : ∃ y, y = Dy.text o.fin := ⟨_, rfl⟩
      rw [← hy] at hdl ⊢
      have HY := Lib.hid hy
      have l1 : x.size + 7 + y.length ≤ 9223372036854775807 := by omega
      have l2 : x.size + 7 + y.length + 1 ≤ 9223372036854775807 := by omega
      clear hbz c6 hy
      go_wp2
      go_ret
      refine ⟨?_, HBz.out⟩
      have hxx := HXX.out
      rw [List.take_length] at hxx
      have e : x ++ (⟨#[32, 117, 110, 116, 105, 108, 32]⟩ : ByteArray) ++ ⟨y.toArray⟩ ++ ⟨#[59]⟩ = ⟨((([99, 97, 108, 101, 110, 100, 97, 114] ++ o.starts.flatMap fun d => 32 :: Dy.text d) ++ [32, 117, 110, 116, 105, 108, 32]) ++ (Dy.text o.fin ++ [59])).toArray⟩ := by
        apply ByteArray.ext
        rw [← Array.toList_inj, ← HY.out]
        simp [hxx]
      refine (congrArg (fun x => Ending.returned (Value.string x)) e).trans ?_
      all_goals simp
/-- law 13's Text of any op -/
theorem ltext_any (o : Sc.Op) (vp vs : Value) (ho : o.can) (w : World) (hP : PtsAt w vp o.parts) (hN : NsAt .i32 w vs o.starts) (hM : Glb13 w) :
    Calls Tryz.prog 20 #[.agg (opc o vp vs).toArray] w fun e w' => e = .returned (.string ⟨(Sc.text Dy.text o).toArray⟩) ∧ Below w.heap.size w w' := by
  have h : o.kind = 0 ∨ o.kind = 1 ∨ o.kind = 2 ∨ o.kind = 3 ∨ o.kind = 4 ∨ o.kind = 5 ∨ o.kind = 6 ∨ o.kind = 7 := by have := ho.kind; omega
  rcases h with h | h | h | h | h | h | h | h
  · exact ltext_0 o vp vs ho h w hM
  · exact ltext_1 o vp vs ho h w hM
  · exact ltext_2 o vp vs ho h w hM
  · exact ltext_3 o vp vs ho h w hM
  · exact ltext_4 o vp vs ho h w hP hM
  · exact ltext_5 o vp vs ho h w hM
  · exact ltext_6 o vp vs ho h w hM
  · exact ltext_7 o vp vs ho h w hN hM
end Go.Proofs.YtbhjkddjgikaiaaGreatDoor
