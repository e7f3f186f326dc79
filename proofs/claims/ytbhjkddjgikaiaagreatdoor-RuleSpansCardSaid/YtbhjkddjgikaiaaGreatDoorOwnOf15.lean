/-
  Own texts, several in one (Of15, Awake15, Law15a).
-/
import Derived.Test.YtbhjkddjgikaiaaGreatDoorOwnLines10
import Derived.Deep.QuietTactic
import Derived.BigQuiet
import Derived.Test.YtbhjkddjgikaiaaGreatDoorMrg36
import Derived.Test.YtbhjkddjgikaiaaGreatDoorMrg17
namespace Go.Proofs.YtbhjkddjgikaiaaGreatDoor
open Go.RowKit
set_option linter.unusedVariables false
set_option linter.unusedSimpArgs false
def jn0 : Jn := ⟨0, [], .slice none 0 0⟩
def spanV (js : List Jn) : List Value :=
  if js.length = 0 then [.int .i32 0, .int .i32 0, .bool false] else [.int .i32 (js.getD 0 jn0).day, .int .i32 (js.getD (js.length - 1) jn0).day, .bool true]
set_option maxHeartbeats 4000000 in
set_option maxRecDepth 100000 in
theorem bdays_any (p1 p2 p3 : Option Addr) (n1 n2 n3 c1 c2 c3 : Nat) (E : Int) (B : Nat) (jv : Value) (js : List Jn) (w : World) (hO : w.ownsRow B 88 2 jv js.length (js.flatMap jn)) (hl : js.length ≤ 1000) :
    Calls Tryz.prog 82 #[.agg #[.slice p1 n1 c1, .slice p2 n2 c2, .slice p3 n3 c3, .int .i32 E, jv]] w fun e w' => e = .returned (.tuple (spanV js).toArray) ∧ Below w.heap.size w w' := by
  obtain ⟨_, pj, cj, rfl, hE⟩ := els_ownG jn 2 jn0 (fun _ => rfl) (by decide) hO
  have BX := below_alloc (Below.refl _ w) (.cells #[.slice p1 n1 c1, .slice p2 n2 c2, .slice p3 n3 c3, .int .i32 E, .slice pj js.length cj] 84)
  have RX := Row.new w #[.slice p1 n1 c1, .slice p2 n2 c2, .slice p3 n3 c3, .int .i32 E, .slice pj js.length cj] 84
  have HE := Lib.hid hE
  have HL := Lib.hid hl
  have HBX := Lib.hid BX
  have HRX := Lib.hid RX
  clear hO hE hl
  by_cases h0 : js.length = 0
  · have hs : spanV js = [.int .i32 0, .int .i32 0, .bool false] := by unfold spanV; rw [if_pos h0]
    rw [hs]
    have q : ((js.length : Int) == 0) = true := by rw [h0]; rfl
    clear hs h0 BX RX
    go_enter Tryz.func82, Tryz.ntmps82
    go_wp2_with fail
    refine bodyPost_ret (v := .tuple #[.int .i32 0, .int .i32 0, .bool false]) (by simp [results, Tryz.results82, go_sem]) rfl ⟨rfl, HBX.out⟩
  · obtain ⟨nm, hnm⟩ : ∃ m, m = js.length - 1 := ⟨_, rfl⟩
    have hs : spanV js = [.int .i32 (js.getD 0 jn0).day, .int .i32 (js.getD nm jn0).day, .bool true] := by unfold spanV; rw [if_neg h0, hnm]
    rw [hs]
    have q : ((js.length : Int) == 0) = false := beq_eq_false_iff_ne.2 (by omega)
    obtain ⟨bj, oj, rfl, hcc⟩ : ∃ b o, pj = some ⟨b, o, none⟩ ∧ ∀ i, i < js.length → w.rangeAt b (o + i * 2) (jn (js.getD i jn0)) := by
      rcases HE.out with h | h
      · rw [h] at h0; simp at h0
      · exact h
    have a0 := hcc 0 (by omega) 0 _ rfl
    have a1 := hcc nm (by omega) 0 _ rfl
    generalize (js.getD 0 jn0).day = d0 at *
    generalize (js.getD nm jn0).day = d1 at *
    have b0 := cell_then a0 BX
    have b1 := cell_then a1 BX
    have k1 : IntKind.i64.wrap ((js.length : Int) - 1) = (nm : Int) := by have := HL.out; rw [IntKind.wrap_i64]; omega
    have k2 : (0 : Int) ≤ (nm : Int) := by omega
    have k3 : (nm : Int) < (js.length : Int) := by omega
    have k4 : (0 : Int) < (js.length : Int) := by omega
    generalize js.length = n at *
    have HB0 : Hid ((w.alloc (.cells #[.slice p1 n1 c1, .slice p2 n2 c2, .slice p3 n3 c3, .int .i32 E, .slice (some ⟨bj, oj, none⟩) n cj] 84)).cell? ⟨bj, oj, none⟩ = some (.int .i32 d0)) := Lib.hid (by simpa using b0)
    have HB1 : Hid ((w.alloc (.cells #[.slice p1 n1 c1, .slice p2 n2 c2, .slice p3 n3 c3, .int .i32 E, .slice (some ⟨bj, oj, none⟩) n cj] 84)).cell? ⟨bj, oj + nm * 2, none⟩ = some (.int .i32 d1)) := Lib.hid (by simpa using b1)
    clear hs h0 hnm hcc a0 a1 b0 b1 BX RX HE HL
    go_enter Tryz.func82, Tryz.ntmps82
    go_wp2_with fail
    generalize w.alloc (.cells #[.slice p1 n1 c1, .slice p2 n2 c2, .slice p3 n3 c3, .int .i32 E, .slice (some ⟨bj, oj, none⟩) n cj] 84) = w0 at *
    refine region_quietS (fun w' => Below w0.heap.size w0 w') (by kernel_rfl) (by kernel_rfl) (below_dr (Below.refl _ _)) (fun hne => ?_)
    have x4 : ∀ m : QW (fun w' => Below w0.heap.size w0 w'), m.w.cell? ⟨w.heap.size, 4, none⟩ = some (.slice (some ⟨bj, oj, none⟩) n cj) := fun m => (HRX.out.below m.h).cell 4
    have y0 : ∀ m : QW (fun w' => Below w0.heap.size w0 w'), m.w.cell? ⟨bj, oj, none⟩ = some (.int .i32 d0) := fun m => cell_then HB0.out m.h
    have y1 : ∀ m : QW (fun w' => Below w0.heap.size w0 w'), m.w.cell? ⟨bj, oj + nm * 2, none⟩ = some (.int .i32 d1) := fun m => cell_then HB1.out m.h
    repeat (go_big_quiet_step (fail))
    refine wpQuiet_nil ?_
    intro _ hw'
    obtain ⟨⟨wy, SY⟩, rfl⟩ := hw'
    clear x4 y0 y1
    go_wp2_with fail
    refine bodyPost_ret (v := .tuple #[.int .i32 d0, .int .i32 d1, .bool true]) (by simp [results, Tryz.results82, go_sem]) rfl ⟨rfl, below_then HBX.out SY⟩
theorem spanV_three (js : List Jn) : ∃ x y z, spanV js = [.int .i32 x, .int .i32 y, .bool z] := by
  unfold spanV
  by_cases h : js.length = 0
  · rw [if_pos h]; exact ⟨_, _, _, rfl⟩
  · rw [if_neg h]; exact ⟨_, _, _, rfl⟩
set_option maxHeartbeats 4000000 in
set_option maxRecDepth 100000 in
theorem ruleOf_any (p1 p2 p3 : Option Addr) (n1 n2 n3 c1 c2 c3 : Nat) (E : Int) (B : Nat) (jv : Value) (js : List Jn) (w : World) (hO : w.ownsRow B 88 2 jv js.length (js.flatMap jn)) (hl : js.length ≤ 1000) :
    Calls Tryz.prog 37 #[.agg #[.slice p1 n1 c1, .slice p2 n2 c2, .slice p3 n3 c3, .int .i32 E, jv]] w fun e w' => e = .returned (.agg (spanV js).toArray) ∧ Below w.heap.size w w' := by
  have HD := Lib.hid fun W (hb : Below w.heap.size w W) => bdays_any p1 p2 p3 n1 n2 n3 c1 c2 c3 E B jv js W (ownW_below hO hb) hl
  obtain ⟨pj, cj, rfl⟩ := own_slice hO
  obtain ⟨x, y, z, hs⟩ := spanV_three js
  rw [hs] at HD ⊢
  have BX := below_alloc (below_alloc (Below.refl _ w) (.cells #[.slice p1 n1 c1, .slice p2 n2 c2, .slice p3 n3 c3, .int .i32 E, .slice pj js.length cj] 84)) (.cells #[.int .i32 0, .int .i32 0, .bool false] 73)
  have RR := Row.new' (w.alloc (.cells #[.slice p1 n1 c1, .slice p2 n2 c2, .slice p3 n3 c3, .int .i32 E, .slice pj js.length cj] 84)) #[.int .i32 0, .int .i32 0, .bool false] 73 (g := w.heap.size + 1) (by simp)
  clear hO hl hs
  go_enter Tryz.func37, Tryz.ntmps37
  go_wp2_with fail
  refine (HD.out _ BX).mono ?_
  rintro _ w1 ⟨rfl, hb⟩
  have R1 := RR.below hb
  have HB := Lib.hid (below_then BX hb)
  clear HD BX RR hb
  go_wp2_with (first | (refine ev_store rfl 73 _ _ rfl (w.heap.size + 1) #[.int .i32 x, .int .i32 y, .bool z] rfl rfl R1 (by kernel_rfl) rfl (by simp [Value.oneCell']) rfl ?_; intro w9 RZ S9))
  exact bodyPost_ret (v := .agg #[.int .i32 x, .int .i32 y, .bool z]) (res_row rfl _ _ RZ rfl Tryz.underlying73 rfl (by kernel_rfl)) rfl ⟨rfl, S9.below HB.out (by omega)⟩
end Go.Proofs.YtbhjkddjgikaiaaGreatDoor

namespace Go.Proofs.YtbhjkddjgikaiaaGreatDoor
open Go.RowKit
set_option linter.unusedVariables false
set_option linter.unusedSimpArgs false
def opA (k : Int) (fr tt : Nat) (nm : ByteArray) (pp ps : Option Addr) (np cp ns cs : Nat) (e at' : Int) : Array Value := #[.int .i64 k, .int .u32 (fr : Int), .int .u32 (tt : Int), .string nm, .slice pp np cp, .slice ps ns cs, .int .i32 e, .int .i64 at']
set_option maxHeartbeats 4000000 in
set_option maxRecDepth 100000 in
theorem chartOp_none (a : Option Addr) (cap : Nat) (l : List Ac) (k : Int) (fr tt : Nat) (nm : ByteArray) (pp ps : Option Addr) (np cp ns cs : Nat) (e at' : Int) (w : World) (hE : ElsAt ac 4 ac0 w a l) (hl : l.length ≤ 1000000) (hr : AcRise l) (hn : getC l fr = none) :
    Calls Tryz.prog 79 #[.slice a l.length cap, .agg (opA k fr tt nm pp ps np cp ns cs e at')] w fun r w' => r = .returned (.tuple #[.slice none 0 0, .int .i64 8]) ∧ Below w.heap.size w w' := by
  have BX := below_alloc (Below.refl _ w) (.cells (opA k fr tt nm pp ps np cp ns cs e at') 48)
  have HG := Lib.hid (get_any a cap l fr _ (hE.below BX) hl hr)
  rw [hn] at HG
  have HBX := Lib.hid BX
  clear hE hl hr hn BX
  unfold opA at *
  go_enter Tryz.func79, Tryz.ntmps79
  go_wp2_with fail
  refine HG.out.mono ?_
  rintro _ w1 ⟨rfl, hb⟩
  have HB := Lib.hid (below_then HBX.out hb)
  clear HG hb
  simp only [Option.getD_none, Option.isSome_none]
  unfold ac
  go_wp2_with fail
  exact bodyPost_ret (v := .tuple #[.slice none 0 0, .int .i64 8]) (by simp [results, Tryz.results79, go_sem]) rfl ⟨rfl, below_alloc HB.out _⟩
def zF : Array Value := #[.slice none 0 0, .slice none 0 0, .slice none 0 0, .int .i32 0]
set_option maxHeartbeats 4000000 in
set_option maxRecDepth 100000 in
theorem next_none (a : Option Addr) (cap : Nat) (l : List Ac) (p2 p3 : Option Addr) (n2 n3 c2 c3 : Nat) (E f9 l9 : Int) (s9 : Bool) (fr tt : Nat) (nm : ByteArray) (pp ps : Option Addr) (np cp ns cs : Nat) (e at' : Int) (w : World) (hE : ElsAt ac 4 ac0 w a l) (hl : l.length ≤ 1000000) (hr : AcRise l) (hn : getC l fr = none) :
    Calls Tryz.prog 31 #[.agg #[.slice a l.length cap, .slice p2 n2 c2, .slice p3 n3 c3, .int .i32 E], .agg #[.int .i32 f9, .int .i32 l9, .bool s9], .agg (opA 0 fr tt nm pp ps np cp ns cs e at')] w fun r w' => r = .returned (.tuple #[.agg zF, .int .i64 8]) ∧ Below w.heap.size w w' := by
  have HC := Lib.hid (fun W (hb : Below w.heap.size w W) => chartOp_none a cap l 0 fr tt nm pp ps np cp ns cs e at' W (hE.below hb) hl hr hn)
  have HU : Hid (∀ W, Calls Tryz.prog 32 #[.int .i64 0] W fun e w' => e = .returned (.bool false) ∧ w' = W) := Lib.hid fun W => unit_kind 0 W
  unfold opA zF at *
  have B1 := below_alloc (Below.refl _ w) (.cells #[.slice a l.length cap, .slice p2 n2 c2, .slice p3 n3 c3, .int .i32 E] 67)
  have R1 := Row.new w #[.slice a l.length cap, .slice p2 n2 c2, .slice p3 n3 c3, .int .i32 E] 67
  have B2 := below_alloc B1 (.cells #[.int .i32 f9, .int .i32 l9, .bool s9] 73)
  have R2 := R1.alloc (.cells #[.int .i32 f9, .int .i32 l9, .bool s9] 73)
  have z2 : ((w.alloc (.cells #[.slice a l.length cap, .slice p2 n2 c2, .slice p3 n3 c3, .int .i32 E] 67)).alloc (.cells #[.int .i32 f9, .int .i32 l9, .bool s9] 73)).heap.size = w.heap.size + 1 + 1 := by simp
  generalize hwb : (w.alloc (.cells #[.slice a l.length cap, .slice p2 n2 c2, .slice p3 n3 c3, .int .i32 E] 67)).alloc (.cells #[.int .i32 f9, .int .i32 l9, .bool s9] 73) = wb at B2 R2 z2
  have B3 := below_alloc B2 (.cells #[.int .i64 0, .int .u32 (fr : Int), .int .u32 (tt : Int), .string nm, .slice pp np cp, .slice ps ns cs, .int .i32 e, .int .i64 at'] 48)
  have R3 := R2.alloc (.cells #[.int .i64 0, .int .u32 (fr : Int), .int .u32 (tt : Int), .string nm, .slice pp np cp, .slice ps ns cs, .int .i32 e, .int .i64 at'] 48)
  have O3 := Row.new' wb #[.int .i64 0, .int .u32 (fr : Int), .int .u32 (tt : Int), .string nm, .slice pp np cp, .slice ps ns cs, .int .i32 e, .int .i64 at'] 48 z2.symm
  have z3 : (wb.alloc (.cells #[.int .i64 0, .int .u32 (fr : Int), .int .u32 (tt : Int), .string nm, .slice pp np cp, .slice ps ns cs, .int .i32 e, .int .i64 at'] 48)).heap.size = w.heap.size + 1 + 1 + 1 := by simp [z2]
  generalize hwc : wb.alloc (.cells #[.int .i64 0, .int .u32 (fr : Int), .int .u32 (tt : Int), .string nm, .slice pp np cp, .slice ps ns cs, .int .i32 e, .int .i64 at'] 48) = wc at B3 R3 O3 z3
  have B4 := below_alloc B3 (.cells #[.slice none 0 0, .slice none 0 0, .slice none 0 0, .int .i32 0] 67)
  have R4 := R3.alloc (.cells #[.slice none 0 0, .slice none 0 0, .slice none 0 0, .int .i32 0] 67)
  have O4 := O3.alloc (.cells #[.slice none 0 0, .slice none 0 0, .slice none 0 0, .int .i32 0] 67)
  have Z4 := Row.new' wc #[.slice none 0 0, .slice none 0 0, .slice none 0 0, .int .i32 0] 67 z3.symm
  generalize hwd : wc.alloc (.cells #[.slice none 0 0, .slice none 0 0, .slice none 0 0, .int .i32 0] 67) = wd9 at B4 R4 O4 Z4
  subst hwb; subst hwc
  clear hE hl hr hn B1 R1 B2 R2 z2 B3 R3 O3 z3
  have HB4 := Lib.hid B4
  have HR4 := Lib.hid R4
  have HO4 := Lib.hid O4
  have HZ4 := Lib.hid Z4
  have HWD := Lib.hid hwd
  clear B4 R4 O4 Z4 hwd
  go_enter Tryz.func31, Tryz.ntmps31
  go_wp2_with fail
  rw [HWD.out]
  refine (HU.out _).mono ?_
  rintro _ w5 ⟨rfl, h5⟩
  rw [h5]
  clear h5 w5
  have g0 : wd9.cell? ⟨w.heap.size, 0, none⟩ = some (.slice a l.length cap) := HR4.out.cell 0
  have o0 : wd9.cell? ⟨w.heap.size + 1 + 1, 0, none⟩ = some (.int .i64 0) := HO4.out.cell 0
  have o1 : wd9.cell? ⟨w.heap.size + 1 + 1, 1, none⟩ = some (.int .u32 (fr : Int)) := HO4.out.cell 1
  have o2 : wd9.cell? ⟨w.heap.size + 1 + 1, 2, none⟩ = some (.int .u32 (tt : Int)) := HO4.out.cell 2
  have o3 : wd9.cell? ⟨w.heap.size + 1 + 1, 3, none⟩ = some (.string nm) := HO4.out.cell 3
  have o4 : wd9.cell? ⟨w.heap.size + 1 + 1, 4, none⟩ = some (.slice pp np cp) := HO4.out.cell 4
  have o5 : wd9.cell? ⟨w.heap.size + 1 + 1, 5, none⟩ = some (.slice ps ns cs) := HO4.out.cell 5
  have o6 : wd9.cell? ⟨w.heap.size + 1 + 1, 6, none⟩ = some (.int .i32 e) := HO4.out.cell 6
  have o7 : wd9.cell? ⟨w.heap.size + 1 + 1, 7, none⟩ = some (.int .i64 at') := HO4.out.cell 7
  go_wp2_with fail
  refine (HC.out _ HB4.out).mono ?_
  rintro _ w6 ⟨rfl, hb⟩
  have RF := HR4.out.below hb
  have RZ := HZ4.out.below hb
  have HB6 := Lib.hid (below_then HB4.out hb)
  have f0 : w6.cell? ⟨w.heap.size, 0, none⟩ = some (.slice a l.length cap) := RF.cell 0
  have f1 : w6.frozen? ⟨w.heap.size, 0, none⟩ = false := RF.frozen 0
  have S7 := stored_setCell w6 w.heap.size 0 (.slice none 0 0)
  have Z7 := RZ.stored S7 (by omega)
  have HB7 := Lib.hid (S7.below HB6.out (Nat.le_refl _))
  have HZ7 := Lib.hid Z7
  clear g0 o0 o1 o2 o3 o4 o5 o6 o7 RF RZ S7 Z7 hb
  go_wp2_with (first | (refine ev_store rfl 67 _ _ rfl (w.heap.size + 1 + 1 + 1) #[.slice none 0 0, .slice none 0 0, .slice none 0 0, .int .i32 0] rfl rfl HZ7.out (by kernel_rfl) rfl (by simp [Value.oneCell']) rfl ?_; intro w9 RZ9 S9))
  have d0 : w9.cell? ⟨w.heap.size + 1 + 1 + 1, 0, none⟩ = some (.slice none 0 0) := RZ9.cell 0
  have d1 : w9.cell? ⟨w.heap.size + 1 + 1 + 1, 1, none⟩ = some (.slice none 0 0) := RZ9.cell 1
  have d2 : w9.cell? ⟨w.heap.size + 1 + 1 + 1, 2, none⟩ = some (.slice none 0 0) := RZ9.cell 2
  have d3 : w9.cell? ⟨w.heap.size + 1 + 1 + 1, 3, none⟩ = some (.int .i32 0) := RZ9.cell 3
  refine bodyPost_ret (v := .tuple #[.agg #[.slice none 0 0, .slice none 0 0, .slice none 0 0, .int .i32 0], .int .i64 8]) (by simp [results, Tryz.results31, go_sem, d0, d1, d2, d3]) rfl ⟨rfl, S9.below HB7.out (by omega)⟩
set_option maxHeartbeats 4000000 in
set_option maxRecDepth 100000 in
theorem all_none (a : Option Addr) (cap : Nat) (l : List Ac) (p2 p3 : Option Addr) (n2 n3 c2 c3 : Nat) (E f9 l9 : Int) (s9 : Bool) (fr tt : Nat) (nm : ByteArray) (pp ps : Option Addr) (np cp ns cs : Nat) (e at' : Int) (go : Nat) (w : World) (hE : ElsAt ac 4 ac0 w a l) (hl : l.length ≤ 1000000) (hr : AcRise l) (hn : getC l fr = none) (hO : Row w go (opA 0 fr tt nm pp ps np cp ns cs e at') 48) :
    Calls Tryz.prog 38 #[.agg #[.slice a l.length cap, .slice p2 n2 c2, .slice p3 n3 c3, .int .i32 E], .agg #[.int .i32 f9, .int .i32 l9, .bool s9], .slice (some ⟨go, 0, none⟩) 1 1] w fun r w' => r = .returned (.tuple #[.agg zF, .int .i64 0, .int .i64 8]) ∧ Below w.heap.size w w' := by
  have HN := Lib.hid (fun W (hb : Below w.heap.size w W) => next_none a cap l p2 p3 n2 n3 c2 c3 E f9 l9 s9 fr tt nm pp ps np cp ns cs e at' W (hE.below hb) hl hr hn)
  unfold opA zF at *
  have B1 := below_alloc (Below.refl _ w) (.cells #[.slice a l.length cap, .slice p2 n2 c2, .slice p3 n3 c3, .int .i32 E] 67)
  have R1 := Row.new w #[.slice a l.length cap, .slice p2 n2 c2, .slice p3 n3 c3, .int .i32 E] 67
  have B2 := below_alloc B1 (.cells #[.int .i32 f9, .int .i32 l9, .bool s9] 73)
  have R2 := R1.alloc (.cells #[.int .i32 f9, .int .i32 l9, .bool s9] 73)
  have Q2 := Row.new' (w.alloc (.cells #[.slice a l.length cap, .slice p2 n2 c2, .slice p3 n3 c3, .int .i32 E] 67)) #[.int .i32 f9, .int .i32 l9, .bool s9] 73 (g := w.heap.size + 1) (by simp)
  have z2 : ((w.alloc (.cells #[.slice a l.length cap, .slice p2 n2 c2, .slice p3 n3 c3, .int .i32 E] 67)).alloc (.cells #[.int .i32 f9, .int .i32 l9, .bool s9] 73)).heap.size = w.heap.size + 1 + 1 := by simp
  generalize hwb : (w.alloc (.cells #[.slice a l.length cap, .slice p2 n2 c2, .slice p3 n3 c3, .int .i32 E] 67)).alloc (.cells #[.int .i32 f9, .int .i32 l9, .bool s9] 73) = wb at B2 R2 Q2 z2
  have B4 := below_alloc B2 (.cells #[.slice none 0 0, .slice none 0 0, .slice none 0 0, .int .i32 0] 67)
  have R4 := R2.alloc (.cells #[.slice none 0 0, .slice none 0 0, .slice none 0 0, .int .i32 0] 67)
  have Q4 := Q2.alloc (.cells #[.slice none 0 0, .slice none 0 0, .slice none 0 0, .int .i32 0] 67)
  have Z4 := Row.new' wb #[.slice none 0 0, .slice none 0 0, .slice none 0 0, .int .i32 0] 67 z2.symm
  generalize hwd : wb.alloc (.cells #[.slice none 0 0, .slice none 0 0, .slice none 0 0, .int .i32 0] 67) = wd9 at B4 R4 Q4 Z4
  subst hwb
  have O4 := hO.below B4
  have HB4 := Lib.hid B4
  have HR4 := Lib.hid R4
  have HQ4 := Lib.hid Q4
  have HZ4 := Lib.hid Z4
  have HO4 := Lib.hid O4
  have HWD := Lib.hid hwd
  clear hE hl hr hn hO B1 R1 B2 R2 Q2 z2 B4 R4 Q4 Z4 O4 hwd
  go_enter Tryz.func38, Tryz.ntmps38
  go_wp2_with fail
  rw [HWD.out]
  refine wp_loop_rounds 1 ?_
  rw [rounds_succ]
  have o0 : wd9.cell? ⟨go, 0, none⟩ = some (.int .i64 0) := HO4.out.cell 0
  have o1 : wd9.cell? ⟨go, 1, none⟩ = some (.int .u32 (fr : Int)) := HO4.out.cell 1
  have o2 : wd9.cell? ⟨go, 2, none⟩ = some (.int .u32 (tt : Int)) := HO4.out.cell 2
  have o3 : wd9.cell? ⟨go, 3, none⟩ = some (.string nm) := HO4.out.cell 3
  have o4 : wd9.cell? ⟨go, 4, none⟩ = some (.slice pp np cp) := HO4.out.cell 4
  have o5 : wd9.cell? ⟨go, 5, none⟩ = some (.slice ps ns cs) := HO4.out.cell 5
  have o6 : wd9.cell? ⟨go, 6, none⟩ = some (.int .i32 e) := HO4.out.cell 6
  have o7 : wd9.cell? ⟨go, 7, none⟩ = some (.int .i64 at') := HO4.out.cell 7
  have f0 : (wd9.alloc (.cells #[.int .i64 0, .int .u32 (fr : Int), .int .u32 (tt : Int), .string nm, .slice pp np cp, .slice ps ns cs, .int .i32 e, .int .i64 at'] 48)).cell? ⟨w.heap.size, 0, none⟩ = some (.slice a l.length cap) := (HR4.out.alloc _).cell 0
  have f1 : (wd9.alloc (.cells #[.int .i64 0, .int .u32 (fr : Int), .int .u32 (tt : Int), .string nm, .slice pp np cp, .slice ps ns cs, .int .i32 e, .int .i64 at'] 48)).cell? ⟨w.heap.size, 1, none⟩ = some (.slice p2 n2 c2) := (HR4.out.alloc _).cell 1
  have f2 : (wd9.alloc (.cells #[.int .i64 0, .int .u32 (fr : Int), .int .u32 (tt : Int), .string nm, .slice pp np cp, .slice ps ns cs, .int .i32 e, .int .i64 at'] 48)).cell? ⟨w.heap.size, 2, none⟩ = some (.slice p3 n3 c3) := (HR4.out.alloc _).cell 2
  have f3 : (wd9.alloc (.cells #[.int .i64 0, .int .u32 (fr : Int), .int .u32 (tt : Int), .string nm, .slice pp np cp, .slice ps ns cs, .int .i32 e, .int .i64 at'] 48)).cell? ⟨w.heap.size, 3, none⟩ = some (.int .i32 E) := (HR4.out.alloc _).cell 3
  have q0 : (wd9.alloc (.cells #[.int .i64 0, .int .u32 (fr : Int), .int .u32 (tt : Int), .string nm, .slice pp np cp, .slice ps ns cs, .int .i32 e, .int .i64 at'] 48)).cell? ⟨w.heap.size + 1, 0, none⟩ = some (.int .i32 f9) := (HQ4.out.alloc _).cell 0
  have q1 : (wd9.alloc (.cells #[.int .i64 0, .int .u32 (fr : Int), .int .u32 (tt : Int), .string nm, .slice pp np cp, .slice ps ns cs, .int .i32 e, .int .i64 at'] 48)).cell? ⟨w.heap.size + 1, 1, none⟩ = some (.int .i32 l9) := (HQ4.out.alloc _).cell 1
  have q2 : (wd9.alloc (.cells #[.int .i64 0, .int .u32 (fr : Int), .int .u32 (tt : Int), .string nm, .slice pp np cp, .slice ps ns cs, .int .i32 e, .int .i64 at'] 48)).cell? ⟨w.heap.size + 1, 2, none⟩ = some (.bool s9) := (HQ4.out.alloc _).cell 2
  have BE := below_alloc HB4.out (.cells #[.int .i64 0, .int .u32 (fr : Int), .int .u32 (tt : Int), .string nm, .slice pp np cp, .slice ps ns cs, .int .i32 e, .int .i64 at'] 48)
  have ZE := HZ4.out.alloc (.cells #[.int .i64 0, .int .u32 (fr : Int), .int .u32 (tt : Int), .string nm, .slice pp np cp, .slice ps ns cs, .int .i32 e, .int .i64 at'] 48)
  go_wp2_with fail
  refine (HN.out _ BE).mono ?_
  rintro _ w6 ⟨rfl, hb⟩
  have Z6 := (ZE.below hb).alloc (.cells #[.slice none 0 0, .slice none 0 0, .slice none 0 0, .int .i32 0] 67)
  have HB6 := Lib.hid (below_alloc (below_then BE hb) (.cells #[.slice none 0 0, .slice none 0 0, .slice none 0 0, .int .i32 0] 67))
  have HZ6 := Lib.hid Z6
  clear o0 o1 o2 o3 o4 o5 o6 o7 f0 f1 f2 f3 q0 q1 q2 BE ZE hb Z6
  go_wp2_with (first | (refine ev_store rfl 67 _ _ rfl (w.heap.size + 1 + 1) #[.slice none 0 0, .slice none 0 0, .slice none 0 0, .int .i32 0] rfl rfl HZ6.out (by kernel_rfl) rfl (by simp [Value.oneCell']) rfl ?_; intro w9 RZ9 S9))
  have d0 : w9.cell? ⟨w.heap.size + 1 + 1, 0, none⟩ = some (.slice none 0 0) := RZ9.cell 0
  have d1 : w9.cell? ⟨w.heap.size + 1 + 1, 1, none⟩ = some (.slice none 0 0) := RZ9.cell 1
  have d2 : w9.cell? ⟨w.heap.size + 1 + 1, 2, none⟩ = some (.slice none 0 0) := RZ9.cell 2
  have d3 : w9.cell? ⟨w.heap.size + 1 + 1, 3, none⟩ = some (.int .i32 0) := RZ9.cell 3
  refine bodyPost_ret (v := .tuple #[.agg #[.slice none 0 0, .slice none 0 0, .slice none 0 0, .int .i32 0], .int .i64 0, .int .i64 8]) (by simp [results, Tryz.results38, go_sem, d0, d1, d2, d3]) rfl ⟨rfl, S9.below HB6.out (by omega)⟩
set_option maxHeartbeats 4000000 in
set_option maxRecDepth 100000 in
theorem awake15 (w : World) (hM : Glb13 w) : Calls Tryz.prog 27 #[] w fun r w' => r = .returned (.bool true) ∧ Below w.heap.size w w' := by
  have HM := Lib.hid hM
  clear hM
  go_enter Tryz.func27, Tryz.ntmps27
  go_wp2_with fail
  refine (frame10 w).mono ?_
  rintro _ w1 ⟨c, u, b, rfl, RC, RU, RB, hb⟩
  have HB1 := Lib.hid hb
  have HRC := Lib.hid RC
  clear hb RC RU RB
  go_wp2_with fail
  have RO := Row.new w1 #[.int .i64 0, .int .u32 1, .int .u32 2, .string ⟨#[]⟩, .slice none 0 0, .slice none 0 0, .int .i32 0, .int .i64 0] 48
  have RK := HRC.out.alloc (.cells #[.int .i64 0, .int .u32 1, .int .u32 2, .string ⟨#[]⟩, .slice none 0 0, .slice none 0 0, .int .i32 0, .int .i64 0] 48)
  have hE : ElsAt ac 4 ac0 (w1.alloc (.cells #[.int .i64 0, .int .u32 1, .int .u32 2, .string ⟨#[]⟩, .slice none 0 0, .slice none 0 0, .int .i32 0, .int .i64 0] 48)) (some ⟨c, 0, none⟩) [cash] := .inr ⟨c, 0, rfl, fun i hi j v hv => by
    obtain rfl : i = 0 := by simpa using hi
    rw [show 0 + 0 * 4 + j = j by omega, RK.cell j]
    simpa [ac, cash] using hv⟩
  refine (all_none (some ⟨c, 0, none⟩) 1 [cash] (some ⟨u, 0, none⟩) (some ⟨b, 0, none⟩) 1 1 1 1 31 0 0 false 1 2 ⟨#[]⟩ none none 0 0 0 0 0 0 w1.heap.size _ hE (by simp) (fun i j h1 h2 => by simp at h2; omega) rfl RO).mono ?_
  rintro _ w2 ⟨rfl, hb⟩
  have HB2 := Lib.hid (below_then (below_alloc HB1.out (.cells #[.int .i64 0, .int .u32 1, .int .u32 2, .string ⟨#[]⟩, .slice none 0 0, .slice none 0 0, .int .i32 0, .int .i64 0] 48)) hb)
  unfold zF
  clear RO RK hE hb HRC
  go_wp2_with fail
  refine (awake14 _ (HM.out.below (below_alloc HB2.out _))).mono ?_
  rintro _ w3 ⟨rfl, hb3⟩
  have HB3 := Lib.hid (below_then (below_alloc HB2.out _) hb3)
  clear hb3
  go_wp2_with fail
  go_ret
  exact ⟨rfl, HB3.out⟩
end Go.Proofs.YtbhjkddjgikaiaaGreatDoor

namespace Go.Proofs.YtbhjkddjgikaiaaGreatDoor
open Go.RowKit
set_option linter.unusedVariables false
set_option linter.unusedSimpArgs false
def J10.okW (w : World) (x : J10) : Prop := x.later ≤ 255 ∧ (∀ y ∈ x.lines, y.ok) ∧ ElsAt l10 4 l100 w x.p x.lines
set_option maxHeartbeats 16000000 in
set_option maxRecDepth 100000 in
theorem ruleSpans_law (a : Option Addr) (cap : Nat) (l : List A6) (pu : Option Addr) (cu : Nat) (lu : List Int) (first : Int) (pl : Option Addr) (cl : Nat) (long : List Int) (aj : Option Addr) (cj : Nat) (lj : List J10) (w : World) (hM : Glb13 w)
    (hE : ElsAt a6 4 a60 w a l) (hok : ∀ x ∈ l, x.ok) (hU : NsAt .u16 w (.slice pu lu.length cu) lu) (hub : ∀ n ∈ lu, 0 ≤ n ∧ n ≤ 65535)
    (hf : -32768 ≤ first ∧ first ≤ 32767) (hlb : ∀ n ∈ long, 0 ≤ n ∧ n ≤ 255) (hL : NsAt .u8 w (.slice pl long.length cl) long) (hJ : ElsAt j10 2 j100 w aj lj) (hJo : ∀ x ∈ lj, x.okW w) (hm : lj.length ≤ 9223372036854775807) :
    Calls Tryz.prog 10 #[.agg #[.slice a l.length cap, .slice pu lu.length cu, .int .i16 first, .slice pl long.length cl, .slice aj lj.length cj]] w fun e w' => e = .returned (.bool true) ∧ Below w.heap.size w w' := by
  have BX := below_alloc (Below.refl _ w) (.cells #[.slice a l.length cap, .slice pu lu.length cu, .int .i16 first, .slice pl long.length cl, .slice aj lj.length cj] 62)
  have RX := Row.new w #[.slice a l.length cap, .slice pu lu.length cu, .int .i16 first, .slice pl long.length cl, .slice aj lj.length cj] 62
  have HA := Lib.hid (awake15 _ (hM.below BX))
  have HL := Lib.hid (fun W (hb : Below w.heap.size w W) => light_any a cap l.length pu cu lu.length first pl cl long.length aj cj lj W (hJ.below hb) hm)
  have HMK := Lib.hid (fun W (hb : Below w.heap.size w W) (h1 : ∀ x ∈ lj, x.lines.length ≤ 8) (h2 : l.length ≤ 20) (h3 : lu.length ≤ 8) (h4 : long.length ≤ 8) (h5 : lj.length ≤ 12) => makeB_any a cap l pu cu lu first pl cl long aj cj lj W (hE.below hb) hok h2 (hU.below hb) hub h3 hf hlb h4 (hL.below hb) (hJ.below hb) (fun x hx => ⟨(hJo x hx).1, h1 x hx, (hJo x hx).2.1, (hJo x hx).2.2.below hb⟩) h5)
  clear hM hE hok hU hub hf hlb hL hJ hJo hm
  go_enter Tryz.func10, Tryz.ntmps10
  go_wp2_with fail
  refine HA.out.mono ?_
  generalize w.alloc (.cells #[.slice a l.length cap, .slice pu lu.length cu, .int .i16 first, .slice pl long.length cl, .slice aj lj.length cj] 62) = w0 at *
  rintro _ w1 ⟨rfl, hb1⟩
  have R1 := RX.below hb1
  have HB1 := Lib.hid (BX.trans (hb1.mono BX.size))
  have HR1 := Lib.hid R1
  have x0 : w1.cell? ⟨w.heap.size, 0, none⟩ = some (.slice a l.length cap) := R1.cell 0
  have x1 : w1.cell? ⟨w.heap.size, 1, none⟩ = some (.slice pu lu.length cu) := R1.cell 1
  have x2 : w1.cell? ⟨w.heap.size, 2, none⟩ = some (.int .i16 first) := R1.cell 2
  have x3 : w1.cell? ⟨w.heap.size, 3, none⟩ = some (.slice pl long.length cl) := R1.cell 3
  have x4 : w1.cell? ⟨w.heap.size, 4, none⟩ = some (.slice aj lj.length cj) := R1.cell 4
  clear HA hb1 R1 RX BX
  go_wp2_with fail
  refine (HL.out w1 HB1.out).mono ?_
  rintro _ w2 ⟨r, rfl, hr, hb2⟩
  have R2 := HR1.out.below hb2
  have HB2 := Lib.hid (below_then HB1.out hb2)
  clear x0 x1 x2 x3 x4 hb2
  rcases hr with ⟨rfl, h1, h2, h3, h4, h5⟩ | rfl
  · have HMK2 := Lib.hid (HMK.out w2 HB2.out h1 h2 h3 h4 h5)
    have HJL := Lib.hid h5
    have x0 : w2.cell? ⟨w.heap.size, 0, none⟩ = some (.slice a l.length cap) := R2.cell 0
    have x1 : w2.cell? ⟨w.heap.size, 1, none⟩ = some (.slice pu lu.length cu) := R2.cell 1
    have x2 : w2.cell? ⟨w.heap.size, 2, none⟩ = some (.int .i16 first) := R2.cell 2
    have x3 : w2.cell? ⟨w.heap.size, 3, none⟩ = some (.slice pl long.length cl) := R2.cell 3
    have x4 : w2.cell? ⟨w.heap.size, 4, none⟩ = some (.slice aj lj.length cj) := R2.cell 4
    clear HMK HL h1 h2 h3 h4 h5 R2
    go_wp2_with fail
    refine HMK2.out.mono ?_
    rintro _ w3 ⟨cv, uv, kv, jv, js, rfl, hF, hO, hJs, hmap, hb3⟩
    have hjl : js.length ≤ 1000 := by
      have h := congrArg List.length hmap
      rw [List.length_map] at h
      have hg : ∀ (c : List Ac) (u : List Int) (E d : Int) (s : List (Int × List Ln)) (m : List J10), (m.foldl (stJ c u E) (d, s)).2.length ≤ s.length + m.length := fun c u E d s m => by
        induction m generalizing d s with
        | nil => simp
        | cons x m ih =>
          rw [List.foldl_cons]
          have h1 := ih (dayJ E d x) (if (linesOf c u x.lines).length = 0 then s else s ++ [(dayJ E d x, linesOf c u x.lines)])
          have h2 : (if (linesOf c u x.lines).length = 0 then s else s ++ [(dayJ E d x, linesOf c u x.lines)]).length ≤ s.length + 1 := by split <;> simp
          have h3 : stJ c u E (d, s) x = (dayJ E d x, if (linesOf c u x.lines).length = 0 then s else s ++ [(dayJ E d x, linesOf c u x.lines)]) := rfl
          rw [h3, List.length_cons]
          omega
      have h2 := hg (chartOf l) (unitsOf lu) (endOf first long) first [] lj
      have h3 : (mkJ (chartOf l) (unitsOf lu) (endOf first long) first lj).2.length ≤ ([] : List (Int × List Ln)).length + lj.length := h2
      have := HJL.out
      simp at h3
      omega
    obtain ⟨p1, c1, rfl⟩ := own_slice hF.1
    obtain ⟨p2, c2, rfl⟩ := own_slice hF.2.1
    obtain ⟨p3, c3, rfl⟩ := own_slice hF.2.2
    obtain ⟨pj, cjv, rfl⟩ := own_slice hO
    generalize (chartOf l).length = n1 at *
    generalize (unitsOf lu).length = n2 at *
    generalize (startsOf first long).length = n3 at *
    generalize endOf first long = E at *
    have hO' := ownMono hO HB2.out.size
    have B3 := below_then HB2.out hb3
    have B4 := below_alloc (below_alloc (Below.refl _ w3) (.cells #[.slice p1 n1 c1, .slice p2 n2 c2, .slice p3 n3 c3, .int .i32 E, .slice pj js.length cjv] 84)) (.cells #[.int .i32 0, .int .i32 0, .bool false] 73)
    have B4' := below_then B3 B4
    have RB := (Row.new w3 #[.slice p1 n1 c1, .slice p2 n2 c2, .slice p3 n3 c3, .int .i32 E, .slice pj js.length cjv] 84).alloc (.cells #[.int .i32 0, .int .i32 0, .bool false] 73)
    have RS := Row.new' (w3.alloc (.cells #[.slice p1 n1 c1, .slice p2 n2 c2, .slice p3 n3 c3, .int .i32 E, .slice pj js.length cjv] 84)) #[.int .i32 0, .int .i32 0, .bool false] 73 (g := w3.heap.size + 1) (by simp)
    have O4 := ownW_below hO' B4
    have b4 : ((w3.alloc (.cells #[.slice p1 n1 c1, .slice p2 n2 c2, .slice p3 n3 c3, .int .i32 E, .slice pj js.length cjv] 84)).alloc (.cells #[.int .i32 0, .int .i32 0, .bool false] 73)).cell? ⟨w3.heap.size, 4, none⟩ = some (.slice pj js.length cjv) := RB.cell 4
    have HGS0 := Lib.hid B3.size
    clear hF hO hJs hmap hb3 hO' B3 B4 HMK2 HJL x0 x1 x2 x3 x4
    by_cases hn : js.length = 0
    · have k0 : ¬ (0 : Int) < (js.length : Int) := by omega
      have hs : spanV js = [.int .i32 0, .int .i32 0, .bool false] := by unfold spanV; rw [if_pos hn]
      have HS := Lib.hid hs
      clear hn hs
      go_wp2_with fail
      clear b4
      generalize (w3.alloc (.cells #[.slice p1 n1 c1, .slice p2 n2 c2, .slice p3 n3 c3, .int .i32 E, .slice pj js.length cjv] 84)).alloc (.cells #[.int .i32 0, .int .i32 0, .bool false] 73) = w4 at *
      obtain ⟨gb, hgb⟩ : ∃ g, g = w3.heap.size := ⟨_, rfl⟩
      obtain ⟨gs, hgs⟩ : ∃ g, g = w3.heap.size + 1 := ⟨_, rfl⟩
      rw [← hgs] at RS ⊢
      rw [← hgb] at RB ⊢
      have HRB := Lib.hid RB
      have HRS := Lib.hid RS
      have HO := Lib.hid O4
      have HB4 := Lib.hid B4'
      clear hgb hgs RB RS O4 B4'
      have hz := HS.out
      refine region_made (n := 5) 4 20 (by kernel_rfl) (fun w' => Below w4.heap.size w4 w') (fun i w' v => v = (#[.agg #[.slice p1 n1 c1, .slice p2 n2 c2, .slice p3 n3 c3, .int .i32 E, .slice pj js.length cjv], .agg #[.int .i32 0, .int .i32 0, .bool false], .agg #[.int .i32 0, .int .i32 0, .bool false], .bool true] : Array Value).getD i undef)
        (fun c v w' => v = .bool true ∧ Below w4.heap.size w4 w') (by kernel_rfl) (by kernel_rfl) (by kernel_rfl) (below_dr (Below.refl _ _)) rfl (fun _ _ a b => below_then a b) (fun i w1 w2 v hb h => h) ?_
      intro F Fz hF hFz
      simp only [fill, updV, dstAt] at hF hFz
      simp [Act.put] at hF hFz
      obtain rfl : F = fun cz => _ := funext fun cz => (hF cz).symm
      obtain rfl : Fz = fun cz v => _ := funext fun cz => funext fun v => (hFz cz v).symm
      clear hF hFz
      refine ⟨?_, ?_, ?_⟩
      · intro i op ho nez cz wx S hG
        have RB := HRB.out.below S
        have RS := HRS.out.below S
        have k0 : wx.cell? ⟨gb, 0, none⟩ = some (.slice p1 n1 c1) := RB.cell 0
        have k1 : wx.cell? ⟨gb, 1, none⟩ = some (.slice p2 n2 c2) := RB.cell 1
        have k2 : wx.cell? ⟨gb, 2, none⟩ = some (.slice p3 n3 c3) := RB.cell 2
        have k3 : wx.cell? ⟨gb, 3, none⟩ = some (.int .i32 E) := RB.cell 3
        have k4 : wx.cell? ⟨gb, 4, none⟩ = some (.slice pj js.length cjv) := RB.cell 4
        have s0 : wx.cell? ⟨gs, 0, none⟩ = some (.int .i32 0) := RS.cell 0
        have s1 : wx.cell? ⟨gs, 1, none⟩ = some (.int .i32 0) := RS.cell 1
        have s2 : wx.cell? ⟨gs, 2, none⟩ = some (.bool false) := RS.cell 2
        rcases i with _ | _ | _ | _ | _ | i
        all_goals (first | (exact absurd rfl nez) | (simp at ho; done) | (obtain rfl := Option.some.inj ho))
        · exact yx_val (.agg #[.slice p1 n1 c1, .slice p2 n2 c2, .slice p3 n3 c3, .int .i32 E, .slice pj js.length cjv]) rfl (by go_simp) ⟨Below.refl _ _, rfl⟩
        · have g0 : cz 0 = .agg #[.slice p1 n1 c1, .slice p2 n2 c2, .slice p3 n3 c3, .int .i32 E, .slice pj js.length cjv] := hG 0 rfl (by omega)
          exact yx_of (yv_call rfl rfl Tryz.func37 (by kernel_rfl) rfl #[.agg #[.slice p1 n1 c1, .slice p2 n2 c2, .slice p3 n3 c3, .int .i32 E, .slice pj js.length cjv]] (by simp only [g0]; go_simp) (by have h := ruleOf_any p1 p2 p3 n1 n2 n3 c1 c2 c3 E w.heap.size (.slice pj js.length cjv) js wx (ownW_below HO.out S) hjl; rw [hz] at h; exact h)) (fun w' hb => ⟨hb, rfl⟩)
        · exact yx_val (.agg #[.int .i32 0, .int .i32 0, .bool false]) rfl (by go_simp) ⟨Below.refl _ _, rfl⟩
        · have g1 : cz 1 = .agg #[.int .i32 0, .int .i32 0, .bool false] := hG 1 rfl (by omega)
          have g2 : cz 2 = .agg #[.int .i32 0, .int .i32 0, .bool false] := hG 2 rfl (by omega)
          exact yx_val (.bool true) rfl (by simp only [g1, g2]; go_simp) ⟨Below.refl _ _, rfl⟩
      · intro op ho cz wx S hG
        obtain rfl := Option.some.inj ho
        have g3 : cz 3 = .bool true := hG 3 (by omega) (by omega)
        exact yx_val (.bool true) rfl (by simp only [g3]; go_simp) ⟨rfl, S⟩
      · rintro c9 v9 w5 ⟨rfl, BB⟩
        go_wp2_with fail
        go_ret
        exact ⟨rfl, below_then HB4.out BB⟩
    · have k0 : (0 : Int) < (js.length : Int) := by omega
      obtain ⟨nm, hnm⟩ : ∃ m, m = js.length - 1 := ⟨_, rfl⟩
      have hs : spanV js = [.int .i32 (js.getD 0 jn0).day, .int .i32 (js.getD nm jn0).day, .bool true] := by unfold spanV; rw [if_neg hn, hnm]
      obtain ⟨_, pj2, cj2, hv2, hEj⟩ := els_ownG jn 2 jn0 (fun _ => rfl) (by decide) O4
      obtain ⟨rfl, rfl⟩ : pj = pj2 ∧ cjv = cj2 := by cases hv2; exact ⟨rfl, rfl⟩
      obtain ⟨bj, oj, rfl, hcc⟩ : ∃ b o, pj = some ⟨b, o, none⟩ ∧ ∀ i, i < js.length → ((w3.alloc (.cells #[.slice p1 n1 c1, .slice p2 n2 c2, .slice p3 n3 c3, .int .i32 E, .slice pj js.length cjv] 84)).alloc (.cells #[.int .i32 0, .int .i32 0, .bool false] 73)).rangeAt b (o + i * 2) (jn (js.getD i jn0)) := by
        rcases hEj with h | h
        · rw [h] at hn; simp at hn
        · exact h
      have a0 := hcc 0 (by omega) 0 _ rfl
      have a1 := hcc nm (by omega) 0 _ rfl
      generalize (js.getD 0 jn0).day = d0 at *
      generalize (js.getD nm jn0).day = d1 at *
      have k1 : IntKind.i64.wrap ((js.length : Int) - 1) = (nm : Int) := by rw [IntKind.wrap_i64]; omega
      have k2 : (0 : Int) ≤ (nm : Int) := by omega
      have k3 : (nm : Int) < (js.length : Int) := by omega
      have HS := Lib.hid hs
      have HJL2 := Lib.hid hjl
      clear hn hs hv2 hEj hcc hnm hjl
      go_wp2_with fail
      clear b4
      generalize (w3.alloc (.cells #[.slice p1 n1 c1, .slice p2 n2 c2, .slice p3 n3 c3, .int .i32 E, .slice (some ⟨bj, oj, none⟩) js.length cjv] 84)).alloc (.cells #[.int .i32 0, .int .i32 0, .bool false] 73) = w4 at *
      obtain ⟨n, hnn⟩ : ∃ n, n = js.length := ⟨_, rfl⟩
      rw [← hnn] at k0 k1 k3 RB O4 HJL2 ⊢
      obtain ⟨gb, hgb⟩ : ∃ g, g = w3.heap.size := ⟨_, rfl⟩
      obtain ⟨gs, hgs⟩ : ∃ g, g = w3.heap.size + 1 := ⟨_, rfl⟩
      rw [← hgs] at RS ⊢
      rw [← hgb] at RB ⊢
      have HGS := Lib.hid (show gs ≠ gb ∧ w.heap.size ≤ gs by have := HGS0.out; omega)
      have HRB := Lib.hid RB
      have HRS := Lib.hid RS
      have HO := Lib.hid O4
      have HB4 := Lib.hid B4'
      have HNN := Lib.hid hnn
      have HD : Hid (w4.cell? ⟨bj, oj, none⟩ = some (.int .i32 d0) ∧ w4.cell? ⟨bj, oj + nm * 2, none⟩ = some (.int .i32 d1)) := Lib.hid ⟨by simpa using a0, by simpa using a1⟩
      clear hgb hgs RB RS O4 B4' a0 a1 hnn
      refine region_made (n := 14) 13 20 (by kernel_rfl) (fun w' => Below w4.heap.size w4 w') (fun i w' v => v = (#[.pointer (some ⟨gb, 4, none⟩), .slice (some ⟨bj, oj, none⟩) n cjv, .pointer (some ⟨bj, oj, none⟩), .pointer (some ⟨bj, oj, none⟩), .int .i32 d0, .pointer (some ⟨gb, 4, none⟩), .slice (some ⟨bj, oj, none⟩) n cjv, .int .i64 (n : Int), .int .i64 (nm : Int), .pointer (some ⟨bj, oj + nm * 2, none⟩), .pointer (some ⟨bj, oj + nm * 2, none⟩), .int .i32 d1, .agg #[.int .i32 d0, .int .i32 d1, .bool true]] : Array Value).getD i undef)
        (fun c v w' => Row w' gs #[.int .i32 d0, .int .i32 d1, .bool true] 73 ∧ Row w' gb #[.slice p1 n1 c1, .slice p2 n2 c2, .slice p3 n3 c3, .int .i32 E, .slice (some ⟨bj, oj, none⟩) n cjv] 84 ∧ w'.ownsRow w.heap.size 88 2 (.slice (some ⟨bj, oj, none⟩) n cjv) n (js.flatMap jn) ∧ Below w.heap.size w w') (by kernel_rfl) (by kernel_rfl) (by kernel_rfl) (below_dr (Below.refl _ _)) rfl (fun _ _ a b => below_then a b) (fun i w1 w2 v hb h => h) ?_
      intro F Fz hF hFz
      simp only [fill, updV, dstAt] at hF hFz
      simp [Act.put] at hF hFz
      obtain rfl : F = fun cz => _ := funext fun cz => (hF cz).symm
      obtain rfl : Fz = fun cz v => _ := funext fun cz => funext fun v => (hFz cz v).symm
      clear hF hFz
      refine ⟨?_, ?_, ?_⟩
      · intro i op ho nez cz wx S hG
        have nz : ¬ n = 0 := by omega
        have RB := HRB.out.below S
        have b4 : wx.cell? ⟨gb, 4, none⟩ = some (.slice (some ⟨bj, oj, none⟩) n cjv) := RB.cell 4
        have x0 : wx.cell? ⟨bj, oj, none⟩ = some (.int .i32 d0) := cell_then HD.out.1 S
        have x1 : wx.cell? ⟨bj, oj + nm * 2, none⟩ = some (.int .i32 d1) := cell_then HD.out.2 S
        rcases i with _ | _ | _ | _ | _ | _ | _ | _ | _ | _ | _ | _ | _ | _ | i
        all_goals (first | (exact absurd rfl nez) | (simp at ho; done) | (obtain rfl := Option.some.inj ho))
        · exact yx_val (.pointer (some ⟨gb, 4, none⟩)) rfl (by go_simp) ⟨Below.refl _ _, rfl⟩
        · have g0 : cz 0 = .pointer (some ⟨gb, 4, none⟩) := hG 0 rfl (by omega)
          exact yx_val (.slice (some ⟨bj, oj, none⟩) n cjv) rfl (by simp only [g0]; go_simp) ⟨Below.refl _ _, rfl⟩
        · have g1 : cz 1 = .slice (some ⟨bj, oj, none⟩) n cjv := hG 1 rfl (by omega)
          exact yx_val (.pointer (some ⟨bj, oj, none⟩)) rfl (by simp only [g1]; go_simp) ⟨Below.refl _ _, rfl⟩
        · have g2 : cz 2 = .pointer (some ⟨bj, oj, none⟩) := hG 2 rfl (by omega)
          exact yx_val (.pointer (some ⟨bj, oj, none⟩)) rfl (by simp only [g2]; go_simp) ⟨Below.refl _ _, rfl⟩
        · have g3 : cz 3 = .pointer (some ⟨bj, oj, none⟩) := hG 3 rfl (by omega)
          exact yx_val (.int .i32 d0) rfl (by simp only [g3]; go_simp) ⟨Below.refl _ _, rfl⟩
        · exact yx_val (.pointer (some ⟨gb, 4, none⟩)) rfl (by go_simp) ⟨Below.refl _ _, rfl⟩
        · have g5 : cz 5 = .pointer (some ⟨gb, 4, none⟩) := hG 5 rfl (by omega)
          exact yx_val (.slice (some ⟨bj, oj, none⟩) n cjv) rfl (by simp only [g5]; go_simp) ⟨Below.refl _ _, rfl⟩
        · exact yx_val (.int .i64 (n : Int)) rfl (by go_simp) ⟨Below.refl _ _, rfl⟩
        · have g7 : cz 7 = .int .i64 (n : Int) := hG 7 rfl (by omega)
          exact yx_val (.int .i64 (nm : Int)) rfl (by simp only [g7]; go_simp) ⟨Below.refl _ _, rfl⟩
        · have g6 : cz 6 = .slice (some ⟨bj, oj, none⟩) n cjv := hG 6 rfl (by omega)
          have g8 : cz 8 = .int .i64 (nm : Int) := hG 8 rfl (by omega)
          exact yx_val (.pointer (some ⟨bj, oj + nm * 2, none⟩)) rfl (by simp only [g6, g8]; go_simp) ⟨Below.refl _ _, rfl⟩
        · have g9 : cz 9 = .pointer (some ⟨bj, oj + nm * 2, none⟩) := hG 9 rfl (by omega)
          exact yx_val (.pointer (some ⟨bj, oj + nm * 2, none⟩)) rfl (by simp only [g9]; go_simp) ⟨Below.refl _ _, rfl⟩
        · have g10 : cz 10 = .pointer (some ⟨bj, oj + nm * 2, none⟩) := hG 10 rfl (by omega)
          exact yx_val (.int .i32 d1) rfl (by simp only [g10]; go_simp) ⟨Below.refl _ _, rfl⟩
        · have g4 : cz 4 = .int .i32 d0 := hG 4 rfl (by omega)
          have g11 : cz 11 = .int .i32 d1 := hG 11 rfl (by omega)
          exact yx_val (.agg #[.int .i32 d0, .int .i32 d1, .bool true]) rfl (by simp only [g4, g11]; go_simp) ⟨Below.refl _ _, rfl⟩
      · intro op ho cz wx S hG
        obtain rfl := Option.some.inj ho
        have g12 : cz 12 = .agg #[.int .i32 d0, .int .i32 d1, .bool true] := hG 12 (by omega) (by omega)
        have RS := HRS.out.below S
        have RB := HRB.out.below S
        exact yx_of (S := fun w' => Row w' gs #[.int .i32 d0, .int .i32 d1, .bool true] 73 ∧ Stored wx gs w') (yv_store rfl 73 _ _ rfl gs _ rfl g12 RS (by kernel_rfl) rfl (by simp [Value.oneCell']) (fun w1 R1 S1 => ⟨R1, S1⟩)) (fun w' ⟨R1, S1⟩ => ⟨R1, RB.stored S1 HGS.out.1.symm, ownW_stored (ownW_below HO.out S) S1 (own_type (ownW_below HO.out S) RS (by show ¬ (73 : Nat) = 88; omega)), S1.below (below_then HB4.out S) HGS.out.2⟩)
      · rintro c9 v9 w5 ⟨RS5, RB5, O5, B5⟩
        have HRB5 := Lib.hid RB5
        have HRS5 := Lib.hid RS5
        have HO5 := Lib.hid O5
        have HB5 := Lib.hid B5
        clear RS5 RB5 O5 B5 k0 k1 k2 k3
        go_wp2_with fail
        refine region_made (n := 5) 4 20 (by kernel_rfl) (fun w' => Below w5.heap.size w5 w') (fun i w' v => v = (#[.agg #[.slice p1 n1 c1, .slice p2 n2 c2, .slice p3 n3 c3, .int .i32 E, .slice (some ⟨bj, oj, none⟩) n cjv], .agg #[.int .i32 d0, .int .i32 d1, .bool true], .agg #[.int .i32 d0, .int .i32 d1, .bool true], .bool true] : Array Value).getD i undef)
          (fun c v w' => v = .bool true ∧ Below w5.heap.size w5 w') (by kernel_rfl) (by kernel_rfl) (by kernel_rfl) (below_dr (Below.refl _ _)) rfl (fun _ _ a b => below_then a b) (fun i w1 w2 v hb h => h) ?_
        intro F Fz hF hFz
        simp only [fill, updV, dstAt] at hF hFz
        simp [Act.put] at hF hFz
        obtain rfl : F = fun cz => _ := funext fun cz => (hF cz).symm
        obtain rfl : Fz = fun cz v => _ := funext fun cz => funext fun v => (hFz cz v).symm
        clear hF hFz
        refine ⟨?_, ?_, ?_⟩
        · intro i op ho nez cz wx S hG
          have RB := HRB5.out.below S
          have RS := HRS5.out.below S
          have k0 : wx.cell? ⟨gb, 0, none⟩ = some (.slice p1 n1 c1) := RB.cell 0
          have k1 : wx.cell? ⟨gb, 1, none⟩ = some (.slice p2 n2 c2) := RB.cell 1
          have k2 : wx.cell? ⟨gb, 2, none⟩ = some (.slice p3 n3 c3) := RB.cell 2
          have k3 : wx.cell? ⟨gb, 3, none⟩ = some (.int .i32 E) := RB.cell 3
          have k4 : wx.cell? ⟨gb, 4, none⟩ = some (.slice (some ⟨bj, oj, none⟩) n cjv) := RB.cell 4
          have s0 : wx.cell? ⟨gs, 0, none⟩ = some (.int .i32 d0) := RS.cell 0
          have s1 : wx.cell? ⟨gs, 1, none⟩ = some (.int .i32 d1) := RS.cell 1
          have s2 : wx.cell? ⟨gs, 2, none⟩ = some (.bool true) := RS.cell 2
          rcases i with _ | _ | _ | _ | _ | i
          all_goals (first | (exact absurd rfl nez) | (simp at ho; done) | (obtain rfl := Option.some.inj ho))
          · exact yx_val (.agg #[.slice p1 n1 c1, .slice p2 n2 c2, .slice p3 n3 c3, .int .i32 E, .slice (some ⟨bj, oj, none⟩) n cjv]) rfl (by go_simp) ⟨Below.refl _ _, rfl⟩
          · have g0 : cz 0 = .agg #[.slice p1 n1 c1, .slice p2 n2 c2, .slice p3 n3 c3, .int .i32 E, .slice (some ⟨bj, oj, none⟩) n cjv] := hG 0 rfl (by omega)
            exact yx_of (yv_call rfl rfl Tryz.func37 (by kernel_rfl) rfl #[.agg #[.slice p1 n1 c1, .slice p2 n2 c2, .slice p3 n3 c3, .int .i32 E, .slice (some ⟨bj, oj, none⟩) n cjv]] (by simp only [g0]; go_simp) (by have h := ruleOf_any p1 p2 p3 n1 n2 n3 c1 c2 c3 E w.heap.size (.slice (some ⟨bj, oj, none⟩) n cjv) js wx (by rw [← HNN.out]; exact ownW_below HO5.out S) (by rw [← HNN.out]; exact HJL2.out); rw [HS.out] at h; exact h)) (fun w' hb => ⟨hb, rfl⟩)
          · exact yx_val (.agg #[.int .i32 d0, .int .i32 d1, .bool true]) rfl (by go_simp) ⟨Below.refl _ _, rfl⟩
          · have g1 : cz 1 = .agg #[.int .i32 d0, .int .i32 d1, .bool true] := hG 1 rfl (by omega)
            have g2 : cz 2 = .agg #[.int .i32 d0, .int .i32 d1, .bool true] := hG 2 rfl (by omega)
            exact yx_val (.bool true) rfl (by simp only [g1, g2]; go_simp) ⟨Below.refl _ _, rfl⟩
        · intro op ho cz wx S hG
          obtain rfl := Option.some.inj ho
          have g3 : cz 3 = .bool true := hG 3 (by omega) (by omega)
          exact yx_val (.bool true) rfl (by simp only [g3]; go_simp) ⟨rfl, S⟩
        · rintro c8 v8 w6 ⟨rfl, BB⟩
          go_wp2_with fail
          go_ret
          exact ⟨rfl, below_then HB5.out BB⟩
  · go_wp2_with fail
    go_ret
    exact ⟨rfl, HB2.out⟩
end Go.Proofs.YtbhjkddjgikaiaaGreatDoor
