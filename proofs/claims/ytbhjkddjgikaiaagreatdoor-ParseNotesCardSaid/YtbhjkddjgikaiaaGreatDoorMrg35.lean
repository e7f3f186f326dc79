/-
  Own texts, several in one (Name6, Raw13, Raw13b).
-/
import Derived.Test.YtbhjkddjgikaiaaGreatDoorMrg27
import Derived.Test.YtbhjkddjgikaiaaGreatDoorMrg30
namespace Go.Proofs.YtbhjkddjgikaiaaGreatDoor
open Go.RowKit
set_option linter.unusedVariables false
set_option linter.unusedSimpArgs false
namespace Sc
def names6 : List (List UInt8) := [[67, 97, 115, 104], [97], [66, 97, 110, 107, 32, 49], [76, 111, 115, 115, 46, 120], [49, 50, 51, 52, 53, 54, 55, 56, 57, 48, 49, 50, 51, 52, 53, 54, 55, 56, 57, 48, 49, 50, 51, 52, 53, 54, 55, 56, 57, 48]]
def name6 (n : Nat) : List UInt8 := names6.getD (n % 5) []
end Sc
set_option maxHeartbeats 4000000 in
set_option maxRecDepth 100000 in
theorem name6_any (n : Nat) (hn : n ≤ 255) (w : World) :
    Calls Tryz.prog 64 #[.int .u8 (n : Int)] w fun e w' => e = .returned (.string ⟨(Sc.name6 n).toArray⟩) ∧ Below w.heap.size w w' := by
  have R0 := Row.new w (sv Sc.names6).toArray 9
  have B0 := Lib.hid (below_alloc (Below.refl _ w) (.cells (sv Sc.names6).toArray 9))
  have m0 : ((n : Int)).tmod 5 = ((n % 5 : Nat) : Int) := by
    rw [Int.tmod_eq_emod_of_nonneg (by omega)]; rfl
  unfold Sc.name6
  have hm : n % 5 < 5 := by omega
  generalize n % 5 = m at *
  have hm2 : m = 0 ∨ m = 1 ∨ m = 2 ∨ m = 3 ∨ m = 4 := by omega
  rcases hm2 with rfl | rfl | rfl | rfl | rfl
  · go_enter Tryz.func64, Tryz.ntmps64
    go_wp2
    exact bodyPost_ret (v := .string ⟨(Sc.names6.getD 0 []).toArray⟩) (by simp [results, Tryz.results64, go_sem]; rfl) rfl ⟨rfl, B0.out⟩
  · go_enter Tryz.func64, Tryz.ntmps64
    go_wp2
    exact bodyPost_ret (v := .string ⟨(Sc.names6.getD 1 []).toArray⟩) (by simp [results, Tryz.results64, go_sem]; rfl) rfl ⟨rfl, B0.out⟩
  · go_enter Tryz.func64, Tryz.ntmps64
    go_wp2
    exact bodyPost_ret (v := .string ⟨(Sc.names6.getD 2 []).toArray⟩) (by simp [results, Tryz.results64, go_sem]; rfl) rfl ⟨rfl, B0.out⟩
  · go_enter Tryz.func64, Tryz.ntmps64
    go_wp2
    exact bodyPost_ret (v := .string ⟨(Sc.names6.getD 3 []).toArray⟩) (by simp [results, Tryz.results64, go_sem]; rfl) rfl ⟨rfl, B0.out⟩
  · go_enter Tryz.func64, Tryz.ntmps64
    go_wp2
    exact bodyPost_ret (v := .string ⟨(Sc.names6.getD 4 []).toArray⟩) (by simp [results, Tryz.results64, go_sem]; rfl) rfl ⟨rfl, B0.out⟩
end Go.Proofs.YtbhjkddjgikaiaaGreatDoor

namespace Go.Proofs.YtbhjkddjgikaiaaGreatDoor
open Go.RowKit
set_option linter.unusedVariables false
set_option linter.unusedSimpArgs false

namespace Sc
/-- law 13's O -/
structure O where
  kind : Nat
  a : Nat
  b : Nat
  nm : Nat
  parts : List (Nat × Nat)
  first : Int
  long : List Int
structure O.ok (x : O) : Prop where
  kind : x.kind ≤ 255
  a : x.a ≤ 255
  b : x.b ≤ 255
  nm : x.nm ≤ 255
  parts : ∀ p ∈ x.parts, p.1 ≤ 255 ∧ p.2 ≤ 4294967295
  plen : x.parts.length ≤ 9223372036854775807
  first : -32768 ≤ x.first ∧ x.first ≤ 32767
  long : ∀ n ∈ x.long, 0 ≤ n ∧ n ≤ 255
  llen : x.long.length ≤ 9223372036854775807
def raw1 (x : O) : Op := ⟨1, 1 + x.a, 0, name6 x.nm, [], [], 0, 0⟩
def raw2 (x : O) : Op := ⟨2, 1 + x.a, x.b, [], [], [], 0, 0⟩
def rawPt (q : Nat × Nat) : Nat × Nat := (1 + q.1, 1 + q.2 % 1000000)
def raw4 (x : O) : Op := ⟨4, 1 + x.a, 0, [], (1 + x.b, 1) :: (x.parts.take 7).map rawPt, [], 0, 0⟩
def raw7 (x : O) : Op := ⟨7, 0, 0, [], [], mkStarts x.first x.long (min x.long.length 12), dayAt x.first x.long (min x.long.length 12) + 31, 0⟩
def raw0 (k : Nat) (x : O) : Op := ⟨k, 1 + x.a, 1 + x.b, [], [], [], 0, 0⟩
def raw (x : O) : Op := if x.kind % 8 = 1 then raw1 x else if x.kind % 8 = 4 then raw4 x else if x.kind % 8 = 7 then raw7 x else if x.kind % 8 = 2 then raw2 x else raw0 (x.kind % 8) x
end Sc
def ov (x : Sc.O) (vp vl : Value) : List Value := [.int .u8 (x.kind : Int), .int .u8 (x.a : Int), .int .u8 (x.b : Int), .int .u8 (x.nm : Int), vp, .int .i16 x.first, vl]
def pov (p : Nat × Nat) : List Value := [.int .u8 (p.1 : Int), .int .u32 (p.2 : Int)]
def PosAt (w : World) (v : Value) (l : List (Nat × Nat)) : Prop := ∃ p cap, v = .slice p l.length cap ∧ ElsAt pov 2 (0, 0) w p l
theorem PosAt.below {w w' : World} {v : Value} {l : List (Nat × Nat)} (h : PosAt w v l) (hb : Below w.heap.size w w') : PosAt w' v l := by
  obtain ⟨p, cap, e, h⟩ := h
  exact ⟨p, cap, e, h.below hb⟩
def Fresh (w w' : World) (v : Value) : Prop := ∀ g, v.ownBlock = some g → w.heap.size ≤ g ∧ g < w'.heap.size
theorem fresh_nil (w w' : World) : Fresh w w' (.slice none 0 0) := fun g h => by simp [Value.ownBlock] at h
theorem fresh_own {w w' : World} {B n size : Nat} {e : TypeId} {v : Value} {xs : List Value} (h : w'.ownsRow B e size v n xs) (hB : w.heap.size ≤ B) : Fresh w w' v := fun g hg => by
  have := ownW_lt h hg
  exact ⟨by omega, this.2⟩
theorem pts_nil (w : World) : PtsAt w (.slice none 0 0) [] := ⟨none, 0, rfl, .inl rfl⟩
set_option maxHeartbeats 8000000 in
set_option maxRecDepth 100000 in
theorem raw13_2 (x : Sc.O) (hx : x.ok) (vp vl : Value) (w : World) (hP : PosAt w vp x.parts) (hL : NsAt .u8 w vl x.long) (hk : x.kind % 8 = 2) :
    Calls Tryz.prog 21 #[.agg (ov x vp vl).toArray] w fun e w' => ∃ v1 v2, e = .returned (.agg (opc (Sc.raw2 x) v1 v2).toArray) ∧ PtsAt w' v1 (Sc.raw2 x).parts ∧ NsAt .i32 w' v2 (Sc.raw2 x).starts ∧ Fresh w w' v1 ∧ Fresh w w' v2 ∧ Below w.heap.size w w' := by
  have HX := Lib.hid hx
  have ha := hx.a
  have hb := hx.b
  have m0 : ((x.kind : Int)).tmod 8 = 2 := by
    rw [Int.tmod_eq_emod_of_nonneg (by omega)]; omega
  have e3 : IntKind.u32.wrap (x.a : Int) = x.a := by rw [IntKind.wrap_u32]; omega
  have e4 : IntKind.u32.wrap (1 + (x.a : Int)) = 1 + x.a := by rw [IntKind.wrap_u32]; omega
  have e5 : IntKind.u32.wrap (x.b : Int) = x.b := by rw [IntKind.wrap_u32]; omega
  have e6 : IntKind.u32.wrap (1 + (x.b : Int)) = 1 + x.b := by rw [IntKind.wrap_u32]; omega
  have HP := Lib.hid hP
  have HL := Lib.hid hL
  clear hx ha hb hP hL hk
  unfold ov
  go_enter Tryz.func21, Tryz.ntmps21
  go_wp2_with (first
    | (refine ev_box (N := 1) rfl rfl 38 (Operand.tmp 0) rfl #[.int .u8 (x.kind : Int), .int .u8 (x.a : Int), .int .u8 (x.b : Int), .int .u8 (x.nm : Int), vp, .int .i16 x.first, vl] rfl ?_; intro g0 w1 hg0 RB B1)
    | (refine ev_alloc (N := 2) rfl rfl 48 rfl #[.int .i64 0, .int .u32 0, .int .u32 0, .string ByteArray.empty, .slice none 0 0, .slice none 0 0, .int .i32 0, .int .i64 0] (fun w => by kernel_rfl) ?_; intro gr w2 hgr RR B2; have RB2 := RB.below B2; have d0 : w2.cell? ⟨g0, 0, none⟩ = some (.int .u8 (x.kind : Int)) := RB2.cell 0; have d1 : w2.cell? ⟨g0, 1, none⟩ = some (.int .u8 (x.a : Int)) := RB2.cell 1)
    | (refine ev_alloc (N := 3) rfl rfl 48 rfl #[.int .i64 0, .int .u32 0, .int .u32 0, .string ByteArray.empty, .slice none 0 0, .slice none 0 0, .int .i32 0, .int .i64 0] (fun w => by kernel_rfl) ?_; intro gx w3 hgx RX B3)
    | (refine ev_store rfl 48 (Operand.tmp 3) (Operand.tmp 14) rfl gx #[.int .i64 2, .int .u32 (1 + (x.a : Int)), .int .u32 0, .string ByteArray.empty, .slice none 0 0, .slice none 0 0, .int .i32 0, .int .i64 0] rfl rfl RX (by kernel_rfl) rfl (by simp [Value.oneCell']) rfl ?_; intro w4 RX4 S4; have hl0 := RB.lt; have hl1 := RR.lt; have RB4 := (RB2.below B3).stored S4 (by omega); have RR4 := (RR.below B3).stored S4 (by omega); have BB4 := S4.below (below_then (below_then B1 B2) B3) (by have := B1.size; have := B2.size; omega); have d2 : w4.cell? ⟨g0, 2, none⟩ = some (.int .u8 (x.b : Int)) := RB4.cell 2; have d3 : w4.cell? ⟨g0, 3, none⟩ = some (.int .u8 (x.nm : Int)) := RB4.cell 3; have d4 : w4.cell? ⟨g0, 4, none⟩ = some vp := RB4.cell 4; have d5 : w4.cell? ⟨g0, 5, none⟩ = some (.int .i16 x.first) := RB4.cell 5; have d6 : w4.cell? ⟨g0, 6, none⟩ = some vl := RB4.cell 6; have f0 : w4.cell? ⟨gx, 0, none⟩ = some (.int .i64 2) := RX4.cell 0; have f1 : w4.cell? ⟨gx, 1, none⟩ = some (.int .u32 (1 + (x.a : Int))) := RX4.cell 1; have f2 : w4.cell? ⟨gx, 2, none⟩ = some (.int .u32 0) := RX4.cell 2; have f3 : w4.cell? ⟨gx, 3, none⟩ = some (.string ByteArray.empty) := RX4.cell 3; have f4 : w4.cell? ⟨gx, 4, none⟩ = some (.slice none 0 0) := RX4.cell 4; have f5 : w4.cell? ⟨gx, 5, none⟩ = some (.slice none 0 0) := RX4.cell 5; have f6 : w4.cell? ⟨gx, 6, none⟩ = some (.int .i32 0) := RX4.cell 6; have z1 : w4.frozen? ⟨gx, 1, none⟩ = false := RX4.frozen 1; have z2 : w4.frozen? ⟨gx, 2, none⟩ = false := RX4.frozen 2; have z3 : w4.frozen? ⟨gx, 3, none⟩ = false := RX4.frozen 3; have z4 : w4.frozen? ⟨gx, 4, none⟩ = false := RX4.frozen 4; have z5 : w4.frozen? ⟨gx, 5, none⟩ = false := RX4.frozen 5; have z6 : w4.frozen? ⟨gx, 6, none⟩ = false := RX4.frozen 6; have RS : Row (w4.setCell ⟨gx, 2, none⟩ (.int .u32 (x.b : Int))) gx #[.int .i64 2, .int .u32 (1 + (x.a : Int)), .int .u32 (x.b : Int), .string ByteArray.empty, .slice none 0 0, .slice none 0 0, .int .i32 0, .int .i64 0] 48 := RX4.set 2 _; have RRS := RR4.other ⟨gx, 2, none⟩ (show gr ≠ gx by omega) (.int .u32 (x.b : Int)); have BS := Lib.hid ((stored_setCell w4 gx 2 (.int .u32 (x.b : Int))).below BB4 (by have := B1.size; have := B2.size; omega)); have HGR := Lib.hid (show w.heap.size ≤ gr by have := B1.size; omega))
    | (refine ev_load (N := 78) rfl rfl 48 (Operand.tmp 3) rfl gx rfl RS _ Tryz.underlying48 rfl (by kernel_rfl) ?_)
    | (refine ev_store rfl 48 (Operand.tmp 2) (Operand.tmp 78) rfl gr #[.int .i64 2, .int .u32 (1 + (x.a : Int)), .int .u32 (x.b : Int), .string ByteArray.empty, .slice none 0 0, .slice none 0 0, .int .i32 0, .int .i64 0] rfl rfl RRS (by kernel_rfl) rfl (by kernel_rfl) rfl ?_; intro w9 RZ S9))
  exact bodyPost_ret (v := .agg #[.int .i64 2, .int .u32 (1 + (x.a : Int)), .int .u32 (x.b : Int), .string ByteArray.empty, .slice none 0 0, .slice none 0 0, .int .i32 0, .int .i64 0]) (res_row rfl _ _ RZ rfl Tryz.underlying48 rfl (by kernel_rfl)) rfl ⟨_, _, rfl, pts_nil _, ns_nil _ _, fresh_nil _ _, fresh_nil _ _, S9.below BS.out HGR.out⟩
set_option maxHeartbeats 8000000 in
set_option maxRecDepth 100000 in
theorem raw13_0 (x : Sc.O) (hx : x.ok) (vp vl : Value) (w : World) (hP : PosAt w vp x.parts) (hL : NsAt .u8 w vl x.long) (k : Nat) (hk : x.kind % 8 = k) (hk1 : k ≠ 1) (hk4 : k ≠ 4) (hk7 : k ≠ 7) (hk2 : k ≠ 2) :
    Calls Tryz.prog 21 #[.agg (ov x vp vl).toArray] w fun e w' => ∃ v1 v2, e = .returned (.agg (opc (Sc.raw0 k x) v1 v2).toArray) ∧ PtsAt w' v1 (Sc.raw0 k x).parts ∧ NsAt .i32 w' v2 (Sc.raw0 k x).starts ∧ Fresh w w' v1 ∧ Fresh w w' v2 ∧ Below w.heap.size w w' := by
  have HX := Lib.hid hx
  have ha := hx.a
  have hb := hx.b
  have m0 : ((x.kind : Int)).tmod 8 = (k : Int) := by
    rw [Int.tmod_eq_emod_of_nonneg (by omega)]; omega
  have hk8 : k < 8 := by omega
  have q1 : ((k : Int) == 1) = false := beq_eq_false_iff_ne.2 (by omega)
  have q4 : ((k : Int) == 4) = false := beq_eq_false_iff_ne.2 (by omega)
  have q7 : ((k : Int) == 7) = false := beq_eq_false_iff_ne.2 (by omega)
  have q2 : ((k : Int) == 2) = false := beq_eq_false_iff_ne.2 (by omega)
  have e0 : IntKind.u8.wrap (k : Int) = k := by rw [IntKind.wrap_u8]; omega
  have e1 : IntKind.i64.wrap (k : Int) = k := by rw [IntKind.wrap_i64]; omega
  have e3 : IntKind.u32.wrap (x.a : Int) = x.a := by rw [IntKind.wrap_u32]; omega
  have e4 : IntKind.u32.wrap (1 + (x.a : Int)) = 1 + x.a := by rw [IntKind.wrap_u32]; omega
  have e5 : IntKind.u32.wrap (x.b : Int) = x.b := by rw [IntKind.wrap_u32]; omega
  have e6 : IntKind.u32.wrap (1 + (x.b : Int)) = 1 + x.b := by rw [IntKind.wrap_u32]; omega
  have HP := Lib.hid hP
  have HL := Lib.hid hL
  clear hx ha hb hP hL hk
  unfold ov
  go_enter Tryz.func21, Tryz.ntmps21
  go_wp2_with (first
    | (refine ev_box (N := 1) rfl rfl 38 (Operand.tmp 0) rfl #[.int .u8 (x.kind : Int), .int .u8 (x.a : Int), .int .u8 (x.b : Int), .int .u8 (x.nm : Int), vp, .int .i16 x.first, vl] rfl ?_; intro g0 w1 hg0 RB B1)
    | (refine ev_alloc (N := 2) rfl rfl 48 rfl #[.int .i64 0, .int .u32 0, .int .u32 0, .string ByteArray.empty, .slice none 0 0, .slice none 0 0, .int .i32 0, .int .i64 0] (fun w => by kernel_rfl) ?_; intro gr w2 hgr RR B2; have RB2 := RB.below B2; have d0 : w2.cell? ⟨g0, 0, none⟩ = some (.int .u8 (x.kind : Int)) := RB2.cell 0; have d1 : w2.cell? ⟨g0, 1, none⟩ = some (.int .u8 (x.a : Int)) := RB2.cell 1)
    | (refine ev_alloc (N := 3) rfl rfl 48 rfl #[.int .i64 0, .int .u32 0, .int .u32 0, .string ByteArray.empty, .slice none 0 0, .slice none 0 0, .int .i32 0, .int .i64 0] (fun w => by kernel_rfl) ?_; intro gx w3 hgx RX B3)
    | (refine ev_store rfl 48 (Operand.tmp 3) (Operand.tmp 14) rfl gx #[.int .i64 (k : Int), .int .u32 (1 + (x.a : Int)), .int .u32 0, .string ByteArray.empty, .slice none 0 0, .slice none 0 0, .int .i32 0, .int .i64 0] rfl rfl RX (by kernel_rfl) rfl (by simp [Value.oneCell']) rfl ?_; intro w4 RX4 S4; have hl0 := RB.lt; have hl1 := RR.lt; have RB4 := (RB2.below B3).stored S4 (by omega); have RR4 := (RR.below B3).stored S4 (by omega); have BB4 := S4.below (below_then (below_then B1 B2) B3) (by have := B1.size; have := B2.size; omega); have d2 : w4.cell? ⟨g0, 2, none⟩ = some (.int .u8 (x.b : Int)) := RB4.cell 2; have d3 : w4.cell? ⟨g0, 3, none⟩ = some (.int .u8 (x.nm : Int)) := RB4.cell 3; have d4 : w4.cell? ⟨g0, 4, none⟩ = some vp := RB4.cell 4; have d5 : w4.cell? ⟨g0, 5, none⟩ = some (.int .i16 x.first) := RB4.cell 5; have d6 : w4.cell? ⟨g0, 6, none⟩ = some vl := RB4.cell 6; have f0 : w4.cell? ⟨gx, 0, none⟩ = some (.int .i64 (k : Int)) := RX4.cell 0; have f1 : w4.cell? ⟨gx, 1, none⟩ = some (.int .u32 (1 + (x.a : Int))) := RX4.cell 1; have f2 : w4.cell? ⟨gx, 2, none⟩ = some (.int .u32 0) := RX4.cell 2; have f3 : w4.cell? ⟨gx, 3, none⟩ = some (.string ByteArray.empty) := RX4.cell 3; have f4 : w4.cell? ⟨gx, 4, none⟩ = some (.slice none 0 0) := RX4.cell 4; have f5 : w4.cell? ⟨gx, 5, none⟩ = some (.slice none 0 0) := RX4.cell 5; have f6 : w4.cell? ⟨gx, 6, none⟩ = some (.int .i32 0) := RX4.cell 6; have z1 : w4.frozen? ⟨gx, 1, none⟩ = false := RX4.frozen 1; have z2 : w4.frozen? ⟨gx, 2, none⟩ = false := RX4.frozen 2; have z3 : w4.frozen? ⟨gx, 3, none⟩ = false := RX4.frozen 3; have z4 : w4.frozen? ⟨gx, 4, none⟩ = false := RX4.frozen 4; have z5 : w4.frozen? ⟨gx, 5, none⟩ = false := RX4.frozen 5; have z6 : w4.frozen? ⟨gx, 6, none⟩ = false := RX4.frozen 6; have RS : Row (w4.setCell ⟨gx, 2, none⟩ (.int .u32 (1 + (x.b : Int)))) gx #[.int .i64 (k : Int), .int .u32 (1 + (x.a : Int)), .int .u32 (1 + (x.b : Int)), .string ByteArray.empty, .slice none 0 0, .slice none 0 0, .int .i32 0, .int .i64 0] 48 := RX4.set 2 _; have RRS := RR4.other ⟨gx, 2, none⟩ (show gr ≠ gx by omega) (.int .u32 (1 + (x.b : Int))); have BS := Lib.hid ((stored_setCell w4 gx 2 (.int .u32 (1 + (x.b : Int)))).below BB4 (by have := B1.size; have := B2.size; omega)); have HGR := Lib.hid (show w.heap.size ≤ gr by have := B1.size; omega))
    | (refine ev_load (N := 78) rfl rfl 48 (Operand.tmp 3) rfl gx rfl RS _ Tryz.underlying48 rfl (by kernel_rfl) ?_)
    | (refine ev_store rfl 48 (Operand.tmp 2) (Operand.tmp 78) rfl gr #[.int .i64 (k : Int), .int .u32 (1 + (x.a : Int)), .int .u32 (1 + (x.b : Int)), .string ByteArray.empty, .slice none 0 0, .slice none 0 0, .int .i32 0, .int .i64 0] rfl rfl RRS (by kernel_rfl) rfl (by kernel_rfl) rfl ?_; intro w9 RZ S9))
  exact bodyPost_ret (v := .agg #[.int .i64 (k : Int), .int .u32 (1 + (x.a : Int)), .int .u32 (1 + (x.b : Int)), .string ByteArray.empty, .slice none 0 0, .slice none 0 0, .int .i32 0, .int .i64 0]) (res_row rfl _ _ RZ rfl Tryz.underlying48 rfl (by kernel_rfl)) rfl ⟨_, _, rfl, pts_nil _, ns_nil _ _, fresh_nil _ _, fresh_nil _ _, S9.below BS.out HGR.out⟩
set_option maxHeartbeats 8000000 in
set_option maxRecDepth 100000 in
theorem raw13_1 (x : Sc.O) (hx : x.ok) (vp vl : Value) (w : World) (hP : PosAt w vp x.parts) (hL : NsAt .u8 w vl x.long) (hk : x.kind % 8 = 1) :
    Calls Tryz.prog 21 #[.agg (ov x vp vl).toArray] w fun e w' => ∃ v1 v2, e = .returned (.agg (opc (Sc.raw1 x) v1 v2).toArray) ∧ PtsAt w' v1 (Sc.raw1 x).parts ∧ NsAt .i32 w' v2 (Sc.raw1 x).starts ∧ Fresh w w' v1 ∧ Fresh w w' v2 ∧ Below w.heap.size w w' := by
  have HX := Lib.hid hx
  have ha := hx.a
  have hb := hx.b
  have m0 : ((x.kind : Int)).tmod 8 = 1 := by
    rw [Int.tmod_eq_emod_of_nonneg (by omega)]; omega
  have e3 : IntKind.u32.wrap (x.a : Int) = x.a := by rw [IntKind.wrap_u32]; omega
  have e4 : IntKind.u32.wrap (1 + (x.a : Int)) = 1 + x.a := by rw [IntKind.wrap_u32]; omega
  have e5 : IntKind.u32.wrap (x.b : Int) = x.b := by rw [IntKind.wrap_u32]; omega
  have e6 : IntKind.u32.wrap (1 + (x.b : Int)) = 1 + x.b := by rw [IntKind.wrap_u32]; omega
  have HP := Lib.hid hP
  have HL := Lib.hid hL
  clear hx ha hb hP hL hk
  unfold ov
  go_enter Tryz.func21, Tryz.ntmps21
  go_wp2_with (first
    | (refine ev_box (N := 1) rfl rfl 38 (Operand.tmp 0) rfl #[.int .u8 (x.kind : Int), .int .u8 (x.a : Int), .int .u8 (x.b : Int), .int .u8 (x.nm : Int), vp, .int .i16 x.first, vl] rfl ?_; intro g0 w1 hg0 RB B1)
    | (refine ev_alloc (N := 2) rfl rfl 48 rfl #[.int .i64 0, .int .u32 0, .int .u32 0, .string ByteArray.empty, .slice none 0 0, .slice none 0 0, .int .i32 0, .int .i64 0] (fun w => by kernel_rfl) ?_; intro gr w2 hgr RR B2; have RB2 := RB.below B2; have d0 : w2.cell? ⟨g0, 0, none⟩ = some (.int .u8 (x.kind : Int)) := RB2.cell 0; have d1 : w2.cell? ⟨g0, 1, none⟩ = some (.int .u8 (x.a : Int)) := RB2.cell 1)
    | (refine ev_alloc (N := 3) rfl rfl 48 rfl #[.int .i64 0, .int .u32 0, .int .u32 0, .string ByteArray.empty, .slice none 0 0, .slice none 0 0, .int .i32 0, .int .i64 0] (fun w => by kernel_rfl) ?_; intro gx w3 hgx RX B3)
    | (refine ev_store rfl 48 (Operand.tmp 3) (Operand.tmp 14) rfl gx #[.int .i64 1, .int .u32 (1 + (x.a : Int)), .int .u32 0, .string ByteArray.empty, .slice none 0 0, .slice none 0 0, .int .i32 0, .int .i64 0] rfl rfl RX (by kernel_rfl) rfl (by simp [Value.oneCell']) rfl ?_; intro w4 RX4 S4; have hl0 := RB.lt; have hl1 := RR.lt; have RB4 := (RB2.below B3).stored S4 (by omega); have RR4 := (RR.below B3).stored S4 (by omega); have BB4 := S4.below (below_then (below_then B1 B2) B3) (by have := B1.size; have := B2.size; omega); have d2 : w4.cell? ⟨g0, 2, none⟩ = some (.int .u8 (x.b : Int)) := RB4.cell 2; have d3 : w4.cell? ⟨g0, 3, none⟩ = some (.int .u8 (x.nm : Int)) := RB4.cell 3; have d4 : w4.cell? ⟨g0, 4, none⟩ = some vp := RB4.cell 4; have d5 : w4.cell? ⟨g0, 5, none⟩ = some (.int .i16 x.first) := RB4.cell 5; have d6 : w4.cell? ⟨g0, 6, none⟩ = some vl := RB4.cell 6; have f0 : w4.cell? ⟨gx, 0, none⟩ = some (.int .i64 1) := RX4.cell 0; have f1 : w4.cell? ⟨gx, 1, none⟩ = some (.int .u32 (1 + (x.a : Int))) := RX4.cell 1; have f2 : w4.cell? ⟨gx, 2, none⟩ = some (.int .u32 0) := RX4.cell 2; have f3 : w4.cell? ⟨gx, 3, none⟩ = some (.string ByteArray.empty) := RX4.cell 3; have f4 : w4.cell? ⟨gx, 4, none⟩ = some (.slice none 0 0) := RX4.cell 4; have f5 : w4.cell? ⟨gx, 5, none⟩ = some (.slice none 0 0) := RX4.cell 5; have f6 : w4.cell? ⟨gx, 6, none⟩ = some (.int .i32 0) := RX4.cell 6; have z1 : w4.frozen? ⟨gx, 1, none⟩ = false := RX4.frozen 1; have z2 : w4.frozen? ⟨gx, 2, none⟩ = false := RX4.frozen 2; have z3 : w4.frozen? ⟨gx, 3, none⟩ = false := RX4.frozen 3; have z4 : w4.frozen? ⟨gx, 4, none⟩ = false := RX4.frozen 4; have z5 : w4.frozen? ⟨gx, 5, none⟩ = false := RX4.frozen 5; have z6 : w4.frozen? ⟨gx, 6, none⟩ = false := RX4.frozen 6))
  refine (name6_any x.nm HX.out.nm _).mono ?_
  rintro _ w5 ⟨rfl, hB5⟩
  have RX5 := RX4.below hB5
  have RR5 := RR4.below hB5
  have g3 : w5.cell? ⟨gx, 3, none⟩ = some (.string ByteArray.empty) := RX5.cell 3
  have y3 : w5.frozen? ⟨gx, 3, none⟩ = false := RX5.frozen 3
  have RS : Row (w5.setCell ⟨gx, 3, none⟩ (.string ⟨(Sc.name6 x.nm).toArray⟩)) gx #[.int .i64 1, .int .u32 (1 + (x.a : Int)), .int .u32 0, .string ⟨(Sc.name6 x.nm).toArray⟩, .slice none 0 0, .slice none 0 0, .int .i32 0, .int .i64 0] 48 := RX5.set 3 _
  have RRS := RR5.other ⟨gx, 3, none⟩ (show gr ≠ gx by omega) (.string ⟨(Sc.name6 x.nm).toArray⟩)
  have BS := Lib.hid ((stored_setCell w5 gx 3 (.string ⟨(Sc.name6 x.nm).toArray⟩)).below (below_then BB4 hB5) (by have := B1.size; have := B2.size; omega))
  have HGR := Lib.hid (show w.heap.size ≤ gr by have := B1.size; omega)
  go_wp2_with (first
    | (refine ev_load (N := 78) rfl rfl 48 (Operand.tmp 3) rfl gx rfl RS _ Tryz.underlying48 rfl (by kernel_rfl) ?_)
    | (refine ev_store rfl 48 (Operand.tmp 2) (Operand.tmp 78) rfl gr #[.int .i64 1, .int .u32 (1 + (x.a : Int)), .int .u32 0, .string ⟨(Sc.name6 x.nm).toArray⟩, .slice none 0 0, .slice none 0 0, .int .i32 0, .int .i64 0] rfl rfl RRS (by kernel_rfl) rfl (by kernel_rfl) rfl ?_; intro w9 RZ S9))
  exact bodyPost_ret (v := .agg #[.int .i64 1, .int .u32 (1 + (x.a : Int)), .int .u32 0, .string ⟨(Sc.name6 x.nm).toArray⟩, .slice none 0 0, .slice none 0 0, .int .i32 0, .int .i64 0]) (res_row rfl _ _ RZ rfl Tryz.underlying48 rfl (by kernel_rfl)) rfl ⟨_, _, rfl, pts_nil _, ns_nil _ _, fresh_nil _ _, fresh_nil _ _, S9.below BS.out HGR.out⟩
set_option maxHeartbeats 8000000 in
set_option maxRecDepth 100000 in
theorem raw13_7 (x : Sc.O) (hx : x.ok) (vp vl : Value) (w : World) (hP : PosAt w vp x.parts) (hL : NsAt .u8 w vl x.long) (hk : x.kind % 8 = 7) :
    Calls Tryz.prog 21 #[.agg (ov x vp vl).toArray] w fun e w' => ∃ v1 v2, e = .returned (.agg (opc (Sc.raw7 x) v1 v2).toArray) ∧ PtsAt w' v1 (Sc.raw7 x).parts ∧ NsAt .i32 w' v2 (Sc.raw7 x).starts ∧ Fresh w w' v1 ∧ Fresh w w' v2 ∧ Below w.heap.size w w' := by
  have HX := Lib.hid hx
  have ha := hx.a
  have hb := hx.b
  have m0 : ((x.kind : Int)).tmod 8 = 7 := by
    rw [Int.tmod_eq_emod_of_nonneg (by omega)]; omega
  have e3 : IntKind.u32.wrap (x.a : Int) = x.a := by rw [IntKind.wrap_u32]; omega
  have e4 : IntKind.u32.wrap (1 + (x.a : Int)) = 1 + x.a := by rw [IntKind.wrap_u32]; omega
  have e5 : IntKind.u32.wrap (x.b : Int) = x.b := by rw [IntKind.wrap_u32]; omega
  have e6 : IntKind.u32.wrap (1 + (x.b : Int)) = 1 + x.b := by rw [IntKind.wrap_u32]; omega
  have HP := Lib.hid hP
  have HL := Lib.hid hL
  clear hx ha hb hP hL hk
  unfold ov
  go_enter Tryz.func21, Tryz.ntmps21
  go_wp2_with (first
    | (refine ev_box (N := 1) rfl rfl 38 (Operand.tmp 0) rfl #[.int .u8 (x.kind : Int), .int .u8 (x.a : Int), .int .u8 (x.b : Int), .int .u8 (x.nm : Int), vp, .int .i16 x.first, vl] rfl ?_; intro g0 w1 hg0 RB B1)
    | (refine ev_alloc (N := 2) rfl rfl 48 rfl #[.int .i64 0, .int .u32 0, .int .u32 0, .string ByteArray.empty, .slice none 0 0, .slice none 0 0, .int .i32 0, .int .i64 0] (fun w => by kernel_rfl) ?_; intro gr w2 hgr RR B2; have RB2 := RB.below B2; have d0 : w2.cell? ⟨g0, 0, none⟩ = some (.int .u8 (x.kind : Int)) := RB2.cell 0; have d1 : w2.cell? ⟨g0, 1, none⟩ = some (.int .u8 (x.a : Int)) := RB2.cell 1)
    | (refine ev_alloc (N := 3) rfl rfl 48 rfl #[.int .i64 0, .int .u32 0, .int .u32 0, .string ByteArray.empty, .slice none 0 0, .slice none 0 0, .int .i32 0, .int .i64 0] (fun w => by kernel_rfl) ?_; intro gx w3 hgx RX B3)
    | (refine ev_store rfl 48 (Operand.tmp 3) (Operand.tmp 14) rfl gx #[.int .i64 7, .int .u32 (1 + (x.a : Int)), .int .u32 0, .string ByteArray.empty, .slice none 0 0, .slice none 0 0, .int .i32 0, .int .i64 0] rfl rfl RX (by kernel_rfl) rfl (by simp [Value.oneCell']) rfl ?_; intro w4 RX4 S4; have hl0 := RB.lt; have hl1 := RR.lt; have RB4 := (RB2.below B3).stored S4 (by omega); have RR4 := (RR.below B3).stored S4 (by omega); have BB4 := S4.below (below_then (below_then B1 B2) B3) (by have := B1.size; have := B2.size; omega); have d2 : w4.cell? ⟨g0, 2, none⟩ = some (.int .u8 (x.b : Int)) := RB4.cell 2; have d3 : w4.cell? ⟨g0, 3, none⟩ = some (.int .u8 (x.nm : Int)) := RB4.cell 3; have d4 : w4.cell? ⟨g0, 4, none⟩ = some vp := RB4.cell 4; have d5 : w4.cell? ⟨g0, 5, none⟩ = some (.int .i16 x.first) := RB4.cell 5; have d6 : w4.cell? ⟨g0, 6, none⟩ = some vl := RB4.cell 6; have f0 : w4.cell? ⟨gx, 0, none⟩ = some (.int .i64 7) := RX4.cell 0; have f1 : w4.cell? ⟨gx, 1, none⟩ = some (.int .u32 (1 + (x.a : Int))) := RX4.cell 1; have f2 : w4.cell? ⟨gx, 2, none⟩ = some (.int .u32 0) := RX4.cell 2; have f3 : w4.cell? ⟨gx, 3, none⟩ = some (.string ByteArray.empty) := RX4.cell 3; have f4 : w4.cell? ⟨gx, 4, none⟩ = some (.slice none 0 0) := RX4.cell 4; have f5 : w4.cell? ⟨gx, 5, none⟩ = some (.slice none 0 0) := RX4.cell 5; have f6 : w4.cell? ⟨gx, 6, none⟩ = some (.int .i32 0) := RX4.cell 6; have z1 : w4.frozen? ⟨gx, 1, none⟩ = false := RX4.frozen 1; have z2 : w4.frozen? ⟨gx, 2, none⟩ = false := RX4.frozen 2; have z3 : w4.frozen? ⟨gx, 3, none⟩ = false := RX4.frozen 3; have z4 : w4.frozen? ⟨gx, 4, none⟩ = false := RX4.frozen 4; have z5 : w4.frozen? ⟨gx, 5, none⟩ = false := RX4.frozen 5; have z6 : w4.frozen? ⟨gx, 6, none⟩ = false := RX4.frozen 6))
  refine (make8_any x.first vl x.long HX.out.first HX.out.long HX.out.llen _ (HL.out.below BB4)).mono ?_
  rintro _ w5 ⟨v, rfl, hO, hB5⟩
  obtain ⟨pv, cv, rfl⟩ := own_slice hO
  have RX5 := RX4.below hB5
  have RR5 := RR4.below hB5
  have g1 : w5.cell? ⟨gx, 1, none⟩ = some (.int .u32 (1 + (x.a : Int))) := RX5.cell 1
  have y1 : w5.frozen? ⟨gx, 1, none⟩ = false := RX5.frozen 1
  have RA := RX5.set 1 (.int .u32 0)
  have g5 : (w5.setCell ⟨gx, 1, none⟩ (.int .u32 0)).cell? ⟨gx, 5, none⟩ = some (.slice none 0 0) := RA.cell 5
  have y5 : (w5.setCell ⟨gx, 1, none⟩ (.int .u32 0)).frozen? ⟨gx, 5, none⟩ = false := RA.frozen 5
  have RB' := RA.set 5 (.slice pv (min x.long.length 12 + 1) cv)
  have g6 : ((w5.setCell ⟨gx, 1, none⟩ (.int .u32 0)).setCell ⟨gx, 5, none⟩ (.slice pv (min x.long.length 12 + 1) cv)).cell? ⟨gx, 6, none⟩ = some (.int .i32 0) := RB'.cell 6
  have y6 : ((w5.setCell ⟨gx, 1, none⟩ (.int .u32 0)).setCell ⟨gx, 5, none⟩ (.slice pv (min x.long.length 12 + 1) cv)).frozen? ⟨gx, 6, none⟩ = false := RB'.frozen 6
  have RS : Row (((w5.setCell ⟨gx, 1, none⟩ (.int .u32 0)).setCell ⟨gx, 5, none⟩ (.slice pv (min x.long.length 12 + 1) cv)).setCell ⟨gx, 6, none⟩ (.int .i32 (Sc.dayAt x.first x.long (min x.long.length 12) + 31))) gx #[.int .i64 7, .int .u32 0, .int .u32 0, .string ByteArray.empty, .slice none 0 0, (.slice pv (min x.long.length 12 + 1) cv), .int .i32 (Sc.dayAt x.first x.long (min x.long.length 12) + 31), .int .i64 0] 48 := RB'.set 6 _
  have hst : Stored w5 gx (((w5.setCell ⟨gx, 1, none⟩ (.int .u32 0)).setCell ⟨gx, 5, none⟩ (.slice pv (min x.long.length 12 + 1) cv)).setCell ⟨gx, 6, none⟩ (.int .i32 (Sc.dayAt x.first x.long (min x.long.length 12) + 31))) := (((stored_setCell w5 gx 1 (.int .u32 0)).trans (stored_setCell _ gx 5 (.slice pv (min x.long.length 12 + 1) cv))).trans (stored_setCell _ gx 6 (.int .i32 (Sc.dayAt x.first x.long (min x.long.length 12) + 31))))
  have RRS := RR5.stored hst (show gr ≠ gx by omega)
  have BS := Lib.hid (hst.below (below_then BB4 hB5) (by have := B1.size; have := B2.size; omega))
  have HGR := Lib.hid (show w.heap.size ≤ gr by have := B1.size; omega)
  have hno : Value.ownBlock (.slice pv (min x.long.length 12 + 1) cv) ≠ some gx := fun e => by
    obtain ⟨cs2, h⟩ := own_cells hO e
    have h2 := h.symm.trans RX5
    simp at h2
  have HOW := Lib.hid (ownW_stored hO hst hno)
  have hno2 : Value.ownBlock (.slice pv (min x.long.length 12 + 1) cv) ≠ some gr := fun e => by
    obtain ⟨cs2, h⟩ := own_cells hO e
    have h2 := h.symm.trans RR5
    simp at h2
  clear hst hno RA RB' hO
  go_wp2_with (first
    | (refine ev_load (N := 78) rfl rfl 48 (Operand.tmp 3) rfl gx rfl RS _ Tryz.underlying48 rfl (by kernel_rfl) ?_)
    | (refine ev_store rfl 48 (Operand.tmp 2) (Operand.tmp 78) rfl gr #[.int .i64 7, .int .u32 0, .int .u32 0, .string ByteArray.empty, .slice none 0 0, (.slice pv (min x.long.length 12 + 1) cv), .int .i32 (Sc.dayAt x.first x.long (min x.long.length 12) + 31), .int .i64 0] rfl rfl RRS (by kernel_rfl) rfl (by kernel_rfl) rfl ?_; intro w9 RZ S9))
  exact bodyPost_ret (v := .agg #[.int .i64 7, .int .u32 0, .int .u32 0, .string ByteArray.empty, .slice none 0 0, (.slice pv (min x.long.length 12 + 1) cv), .int .i32 (Sc.dayAt x.first x.long (min x.long.length 12) + 31), .int .i64 0]) (res_row rfl _ _ RZ rfl Tryz.underlying48 rfl (by kernel_rfl)) rfl ⟨_, _, rfl, pts_nil _, (NsAt.of_own (ownW_stored HOW.out S9 hno2)).1, fresh_nil _ _, fresh_own (ownW_stored HOW.out S9 hno2) BB4.size, S9.below BS.out HGR.out⟩
end Go.Proofs.YtbhjkddjgikaiaaGreatDoor

namespace Go.Proofs.YtbhjkddjgikaiaaGreatDoor
open Go.RowKit
set_option linter.unusedVariables false
set_option linter.unusedSimpArgs false
namespace Sc
def rawPts (x : O) (k : Nat) : List (Nat × Nat) := (1 + x.b, 1) :: (x.parts.take (min k 7)).map rawPt
theorem rawPts_lt (x : O) (k : Nat) (hk : k < x.parts.length) (h7 : k < 7) : rawPts x (k + 1) = rawPts x k ++ [rawPt (x.parts.getD k (0, 0))] := by
  unfold rawPts
  rw [show min (k + 1) 7 = k + 1 by omega, show min k 7 = k by omega, List.take_succ_eq_append_getElem hk, List.map_append, List.getD_eq_getElem?_getD, List.getElem?_eq_getElem hk]
  rfl
theorem rawPts_ge (x : O) (k : Nat) (h7 : 7 ≤ k) : rawPts x (k + 1) = rawPts x k := by
  unfold rawPts
  rw [show min (k + 1) 7 = 7 by omega, show min k 7 = 7 by omega]
theorem rawPts_all (x : O) : rawPts x x.parts.length = (raw4 x).parts := by
  show (1 + x.b, 1) :: (x.parts.take (min x.parts.length 7)).map rawPt = (1 + x.b, 1) :: (x.parts.take 7).map rawPt
  rcases Nat.le_total x.parts.length 7 with h | h
  · rw [Nat.min_eq_left h, List.take_length, List.take_of_length_le h]
  · rw [Nat.min_eq_right h]
end Sc
set_option maxHeartbeats 8000000 in
set_option maxRecDepth 100000 in
theorem raw13_4 (x : Sc.O) (hx : x.ok) (vp vl : Value) (w : World) (hP : PosAt w vp x.parts) (hL : NsAt .u8 w vl x.long) (hk : x.kind % 8 = 4) :
    Calls Tryz.prog 21 #[.agg (ov x vp vl).toArray] w fun e w' => ∃ v1 v2, e = .returned (.agg (opc (Sc.raw4 x) v1 v2).toArray) ∧ PtsAt w' v1 (Sc.raw4 x).parts ∧ NsAt .i32 w' v2 (Sc.raw4 x).starts ∧ Fresh w w' v1 ∧ Fresh w w' v2 ∧ Below w.heap.size w w' := by
  have HX := Lib.hid hx
  have ha := hx.a
  have hb := hx.b
  have m0 : ((x.kind : Int)).tmod 8 = 4 := by
    rw [Int.tmod_eq_emod_of_nonneg (by omega)]; omega
  have e3 : IntKind.u32.wrap (x.a : Int) = x.a := by rw [IntKind.wrap_u32]; omega
  have e4 : IntKind.u32.wrap (1 + (x.a : Int)) = 1 + x.a := by rw [IntKind.wrap_u32]; omega
  have e5 : IntKind.u32.wrap (x.b : Int) = x.b := by rw [IntKind.wrap_u32]; omega
  have e6 : IntKind.u32.wrap (1 + (x.b : Int)) = 1 + x.b := by rw [IntKind.wrap_u32]; omega
  have HP := Lib.hid hP
  have HL := Lib.hid hL
  obtain ⟨pl, cl, rfl, hE⟩ := hP
  have HE := Lib.hid hE
  clear hx ha hb hE hL hk HP
  unfold ov
  go_enter Tryz.func21, Tryz.ntmps21
  go_wp2_with (first
    | (refine ev_box (N := 1) rfl rfl 38 (Operand.tmp 0) rfl #[.int .u8 (x.kind : Int), .int .u8 (x.a : Int), .int .u8 (x.b : Int), .int .u8 (x.nm : Int), (.slice pl x.parts.length cl), .int .i16 x.first, vl] rfl ?_; intro g0 w1 hg0 RB B1)
    | (refine ev_alloc (N := 2) rfl rfl 48 rfl #[.int .i64 0, .int .u32 0, .int .u32 0, .string ByteArray.empty, .slice none 0 0, .slice none 0 0, .int .i32 0, .int .i64 0] (fun w => by kernel_rfl) ?_; intro gr w2 hgr RR B2; have RB2 := RB.below B2; have d0 : w2.cell? ⟨g0, 0, none⟩ = some (.int .u8 (x.kind : Int)) := RB2.cell 0; have d1 : w2.cell? ⟨g0, 1, none⟩ = some (.int .u8 (x.a : Int)) := RB2.cell 1)
    | (refine ev_alloc (N := 3) rfl rfl 48 rfl #[.int .i64 0, .int .u32 0, .int .u32 0, .string ByteArray.empty, .slice none 0 0, .slice none 0 0, .int .i32 0, .int .i64 0] (fun w => by kernel_rfl) ?_; intro gx w3 hgx RX B3)
    | (refine ev_store rfl 48 (Operand.tmp 3) (Operand.tmp 14) rfl gx #[.int .i64 4, .int .u32 (1 + (x.a : Int)), .int .u32 0, .string ByteArray.empty, .slice none 0 0, .slice none 0 0, .int .i32 0, .int .i64 0] rfl rfl RX (by kernel_rfl) rfl (by simp [Value.oneCell']) rfl ?_; intro w4 RX4 S4; have hl0 := RB.lt; have hl1 := RR.lt; have RB4 := (RB2.below B3).stored S4 (by omega); have RR4 := (RR.below B3).stored S4 (by omega); have BB4 := S4.below (below_then (below_then B1 B2) B3) (by have := B1.size; have := B2.size; omega); have d2 : w4.cell? ⟨g0, 2, none⟩ = some (.int .u8 (x.b : Int)) := RB4.cell 2; have d3 : w4.cell? ⟨g0, 3, none⟩ = some (.int .u8 (x.nm : Int)) := RB4.cell 3; have d4 : w4.cell? ⟨g0, 4, none⟩ = some (.slice pl x.parts.length cl) := RB4.cell 4; have d5 : w4.cell? ⟨g0, 5, none⟩ = some (.int .i16 x.first) := RB4.cell 5; have d6 : w4.cell? ⟨g0, 6, none⟩ = some vl := RB4.cell 6; have f0 : w4.cell? ⟨gx, 0, none⟩ = some (.int .i64 4) := RX4.cell 0; have f1 : w4.cell? ⟨gx, 1, none⟩ = some (.int .u32 (1 + (x.a : Int))) := RX4.cell 1; have f2 : w4.cell? ⟨gx, 2, none⟩ = some (.int .u32 0) := RX4.cell 2; have f3 : w4.cell? ⟨gx, 3, none⟩ = some (.string ByteArray.empty) := RX4.cell 3; have f4 : w4.cell? ⟨gx, 4, none⟩ = some (.slice none 0 0) := RX4.cell 4; have f5 : w4.cell? ⟨gx, 5, none⟩ = some (.slice none 0 0) := RX4.cell 5; have f6 : w4.cell? ⟨gx, 6, none⟩ = some (.int .i32 0) := RX4.cell 6; have z1 : w4.frozen? ⟨gx, 1, none⟩ = false := RX4.frozen 1; have z2 : w4.frozen? ⟨gx, 2, none⟩ = false := RX4.frozen 2; have z3 : w4.frozen? ⟨gx, 3, none⟩ = false := RX4.frozen 3; have z4 : w4.frozen? ⟨gx, 4, none⟩ = false := RX4.frozen 4; have z5 : w4.frozen? ⟨gx, 5, none⟩ = false := RX4.frozen 5; have z6 : w4.frozen? ⟨gx, 6, none⟩ = false := RX4.frozen 6; have h0x : g0 ≠ gx := (by omega); have f4a : (w4.alloc (.cells #[.int .u32 (1 + (x.b : Int)), .int .i64 1] 126)).cell? ⟨gx, 4, none⟩ = some (.slice none 0 0) := (RX4.alloc _).cell 4; have z4a : (w4.alloc (.cells #[.int .u32 (1 + (x.b : Int)), .int .i64 1] 126)).frozen? ⟨gx, 4, none⟩ = false := (RX4.alloc _).frozen 4; have d4a : ((w4.alloc (.cells #[.int .u32 (1 + (x.b : Int)), .int .i64 1] 126)).setCell ⟨gx, 4, none⟩ (.slice (some ⟨w4.heap.size, 0, none⟩) 1 1)).cell? ⟨g0, 4, none⟩ = some (.slice pl x.parts.length cl) := ((RB4.alloc _).other ⟨gx, 4, none⟩ h0x _).cell 4))
  have hxr : gr ≠ gx := by omega
  have RN := Row.new w4 #[.int .u32 (1 + (x.b : Int)), .int .i64 1] 126
  have BN := below_alloc BB4 (.cells #[.int .u32 (1 + (x.b : Int)), .int .i64 1] 126)
  have hst := stored_setCell (w4.alloc (.cells #[.int .u32 (1 + (x.b : Int)), .int .i64 1] 126)) gx 4 (.slice (some ⟨w4.heap.size, 0, none⟩) 1 1)
  have HGX := Lib.hid (show w.heap.size ≤ gx ∧ w.heap.size ≤ gr ∧ gr ≠ gx ∧ w.heap.size ≤ w4.heap.size by
    have := B1.size; have := B2.size; have := BB4.size; omega)
  have RXB : Row ((w4.alloc (.cells #[.int .u32 (1 + (x.b : Int)), .int .i64 1] 126)).setCell ⟨gx, 4, none⟩ (.slice (some ⟨w4.heap.size, 0, none⟩) 1 1)) gx #[.int .i64 4, .int .u32 (1 + (x.a : Int)), .int .u32 0, .string ByteArray.empty, (.slice (some ⟨w4.heap.size, 0, none⟩) 1 1), .slice none 0 0, .int .i32 0, .int .i64 0] 48 := (RX4.alloc _).set 4 _
  have RRB := (RR4.alloc (.cells #[.int .u32 (1 + (x.b : Int)), .int .i64 1] 126)).other ⟨gx, 4, none⟩ hxr (.slice (some ⟨w4.heap.size, 0, none⟩) 1 1)
  have BBB := hst.below BN HGX.out.1
  have hgw : gx < w4.heap.size := RX4.lt
  have OWB : ((w4.alloc (.cells #[.int .u32 (1 + (x.b : Int)), .int .i64 1] 126)).setCell ⟨gx, 4, none⟩ (.slice (some ⟨w4.heap.size, 0, none⟩) 1 1)).ownsRow w.heap.size 126 2 (.slice (some ⟨w4.heap.size, 0, none⟩) 1 1) (0 + 1) ((Sc.rawPts x 0).flatMap ptv) := by
    refine ownW_stored (g := gx) ?_ hst ?_
    · refine ⟨?_, .inr ⟨_, 1, _, rfl, HGX.out.2.2.2, RN, Nat.le_refl _, by unfold maxLen; omega, rfl, ?_⟩⟩
      · simp [Sc.rawPts, ptv]
      · simp [Sc.rawPts, ptv]
    · simp [Value.ownBlock]
      omega
  have HRX := Lib.hid RXB
  have HRR := Lib.hid RRB
  have HBB := Lib.hid BBB
  have HOW := Lib.hid OWB
  clear RN BN hst RXB RRB BBB OWB hgw
  go_loopw [40] (fun iv wr => ∃ (k : Nat) (v : Value), k ≤ x.parts.length ∧ iv = .int .i64 (k : Int) ∧ wr.ownsRow w.heap.size 126 2 v (min k 7 + 1) ((Sc.rawPts x k).flatMap ptv) ∧ Row wr gx #[.int .i64 4, .int .u32 (1 + (x.a : Int)), .int .u32 0, .string ByteArray.empty, v, .slice none 0 0, .int .i32 0, .int .i64 0] 48 ∧ Row wr gr #[.int .i64 0, .int .u32 0, .int .u32 0, .string ByteArray.empty, .slice none 0 0, .slice none 0 0, .int .i32 0, .int .i64 0] 48 ∧ Below w.heap.size w wr) (fun iv _ => x.parts.length - (intOf iv).toNat)
  case atStart => exact ⟨0, (.slice (some ⟨w4.heap.size, 0, none⟩) 1 1), by omega, rfl, HOW.out, HRX.out, HRR.out, HBB.out⟩
  case round =>
    obtain ⟨k, v, hk, rfl, hown, RX, RR', BB⟩ := hrel
    have HOW2 := Lib.hid hown
    have HRX2 := Lib.hid RX
    have HRR2 := Lib.hid RR'
    have HB2 := Lib.hid BB
    have hpl := HX.out.plen
    clear hown RX RR' BB
    by_cases hlt : k < x.parts.length
    · have i0 : (0 : Int) ≤ (k : Int) := by omega
      have i1 : (k : Int) < (x.parts.length : Int) := by omega
      obtain ⟨b, off, rfl, hcc⟩ : ∃ b off, pl = some ⟨b, off, none⟩ ∧ ∀ i, i < x.parts.length → w.rangeAt b (off + i * 2) (pov (x.parts.getD i (0, 0))) := by
        rcases HE.out with h | h
        · rw [h] at hlt; simp at hlt
        · exact h
      have ck := range_below (hcc k hlt) HB2.out
      have hq := HX.out.parts _ (getD_mem (d := ((0 : Nat), (0 : Nat))) hlt)
      have hms := Sc.rawPts_lt x k hlt
      obtain ⟨q, hqq⟩ : ∃ q, q = x.parts.getD k (0, 0) := ⟨_, rfl⟩
      rw [← hqq] at ck hq hms
      have c0 : wr.cell? ⟨b, off + k * 2, none⟩ = some (.int .u8 (q.1 : Int)) := ck 0 _ rfl
      have c1 : wr.cell? ⟨b, off + k * 2 + 1, none⟩ = some (.int .u32 (q.2 : Int)) := ck 1 _ rfl
      have e9 : IntKind.i64.wrap ((k : Int) + 1) = (k : Int) + 1 := by rw [IntKind.wrap_i64]; omega
      have BA := below_alloc HB2.out (.cells #[.int .u8 (q.1 : Int), .int .u32 (q.2 : Int)] 133)
      have RXA := HRX2.out.alloc (.cells #[.int .u8 (q.1 : Int), .int .u32 (q.2 : Int)] 133)
      have RRA := HRR2.out.alloc (.cells #[.int .u8 (q.1 : Int), .int .u32 (q.2 : Int)] 133)
      have OWA := own_alloc HOW2.out (.cells #[.int .u8 (q.1 : Int), .int .u32 (q.2 : Int)] 133)
      by_cases h7 : k < 7
      · have j7 : (k : Int) < 7 := by omega
        have hms := hms h7
        have HMS := Lib.hid hms
        have a1 : IntKind.u32.wrap (q.1 : Int) = q.1 := by rw [IntKind.wrap_u32]; omega
        have a2 : IntKind.u32.wrap (1 + (q.1 : Int)) = 1 + q.1 := by rw [IntKind.wrap_u32]; omega
        have a3 : ((q.2 : Int)).tmod 1000000 = ((q.2 % 1000000 : Nat) : Int) := by
          rw [Int.tmod_eq_emod_of_nonneg (by omega)]; rfl
        obtain ⟨m, hm⟩ : ∃ m, m = q.2 % 1000000 := ⟨_, rfl⟩
        have hm6 : m < 1000000 := by omega
        rw [← hm] at a3
        have a4 : IntKind.u32.wrap (m : Int) = m := by rw [IntKind.wrap_u32]; omega
        have a5 : IntKind.i64.wrap (m : Int) = m := by rw [IntKind.wrap_i64]; omega
        have a6 : IntKind.i64.wrap (1 + (m : Int)) = 1 + m := by rw [IntKind.wrap_i64]; omega
        have RZ5 := Row.new (wr.alloc (.cells #[.int .u8 (q.1 : Int), .int .u32 (q.2 : Int)] 133)) #[.int .u32 (1 + (q.1 : Int)), .int .i64 (1 + (m : Int))] 126
        have hsz : (wr.alloc (.cells #[.int .u8 (q.1 : Int), .int .u32 (q.2 : Int)] 133)).heap.size = wr.heap.size + 1 := by simp
        rw [hsz] at RZ5
        have BZ := below_alloc BA (.cells #[.int .u32 (1 + (q.1 : Int)), .int .i64 (1 + (m : Int))] 126)
        have RXZ := RXA.alloc (.cells #[.int .u32 (1 + (q.1 : Int)), .int .i64 (1 + (m : Int))] 126)
        have RRZ := RRA.alloc (.cells #[.int .u32 (1 + (q.1 : Int)), .int .i64 (1 + (m : Int))] 126)
        have g4 : (wr.alloc (.cells #[.int .u8 (q.1 : Int), .int .u32 (q.2 : Int)] 133)).cell? ⟨gx, 4, none⟩ = some v := RXA.cell 4
        obtain ⟨v6, w6, hr6, ho6, hb6, hk6⟩ := append_pt _ w.heap.size 42 v (min k 7 + 1) (Sc.rawPts x k) (own_alloc OWA (.cells #[.int .u32 (1 + (q.1 : Int)), .int .i64 (1 + (m : Int))] 126)) (wr.heap.size + 1) (1 + q.1, 1 + m) RZ5 (by omega) BZ.size
        obtain ⟨p6, c6, rfl⟩ := own_slice ho6
        have RC6 := hk6 gx _ _ RXZ (by show ¬ (48 : Nat) = 126; omega)
        have RR6 := hk6 gr _ _ RRZ (by show ¬ (48 : Nat) = 126; omega)
        have f0 : w6.cell? ⟨gx, 4, none⟩ = some v := RC6.cell 4
        have z0 : w6.frozen? ⟨gx, 4, none⟩ = false := RC6.frozen 4
        have HRC7 := Lib.hid (RC6.set 4 (.slice p6 (min k 7 + 1 + 1) c6))
        have HRR7 := Lib.hid (RR6.other ⟨gx, 4, none⟩ HGX.out.2.2.1 (.slice p6 (min k 7 + 1 + 1) c6))
        have hnc : (Value.slice p6 (min k 7 + 1 + 1) c6).ownBlock ≠ some gx := fun e => by
          obtain ⟨cs2, h⟩ := own_cells ho6 e
          have h2 := h.symm.trans RC6
          simp at h2
        have HO7 := Lib.hid (ownW_stored ho6 (stored_setCell w6 gx 4 (.slice p6 (min k 7 + 1 + 1) c6)) hnc)
        have HB7 := Lib.hid ((stored_setCell w6 gx 4 (.slice p6 (min k 7 + 1 + 1) c6)).below (BZ.trans hb6) HGX.out.1)
        have HR6 := Lib.hid hr6
        have HI := Lib.hid (And.intro hlt h7)
        have HM := Lib.hid hm
        clear hr6 ho6 hb6 hk6 RC6 RR6 hnc hlt hk hcc ck hq hqq hms BA RXA RRA OWA BZ RXZ RRZ RZ5 hm hm6 hsz h7
        go_wp2_with (first | (at_builtin; refine ev_run rfl (run_app_op _ _ _ _ rfl rfl rfl HR6.out) ?_))
        refine ⟨⟨k + 1, .slice p6 (min k 7 + 1 + 1) c6, by have := HI.out; omega, by simp, ?_, HRC7.out, HRR7.out, HB7.out⟩, by have := HI.out; simp [intOf]; omega⟩
        rw [HMS.out, show min (k + 1) 7 + 1 = min k 7 + 1 + 1 by have := HI.out; omega]
        have := HO7.out
        rw [HM.out] at this
        exact this
      · have j7 : ¬ (k : Int) < 7 := by omega
        have hms := Sc.rawPts_ge x k (by omega)
        have HMS := Lib.hid hms
        have HI := Lib.hid (And.intro hlt h7)
        have HBA := Lib.hid BA
        have HXA := Lib.hid RXA
        have HRA := Lib.hid RRA
        have HOA := Lib.hid OWA
        clear hlt hk hcc ck hq hqq hms BA RXA RRA OWA h7
        go_wp2_with fail
        refine ⟨⟨k + 1, v, by have := HI.out; omega, by simp, ?_, HXA.out, HRA.out, HBA.out⟩, by have := HI.out; simp [intOf]; omega⟩
        rw [HMS.out, show min (k + 1) 7 + 1 = min k 7 + 1 by have := HI.out; omega]
        exact HOA.out
    · have i1 : ¬ (k : Int) < (x.parts.length : Int) := by omega
      obtain rfl : k = x.parts.length := by omega
      obtain ⟨pv, cv, rfl⟩ := own_slice HOW2.out
      have RS := HRX2.out
      have RRS := HRR2.out
      clear hlt hk
      go_wp2_with (first
        | (refine ev_load (N := 78) rfl rfl 48 (Operand.tmp 3) rfl gx rfl RS _ Tryz.underlying48 rfl (by kernel_rfl) ?_) | (refine ev_store rfl 48 (Operand.tmp 2) (Operand.tmp 78) rfl gr #[.int .i64 4, .int .u32 (1 + (x.a : Int)), .int .u32 0, .string ByteArray.empty, (.slice pv (min x.parts.length 7 + 1) cv), .slice none 0 0, .int .i32 0, .int .i64 0] rfl rfl RRS (by kernel_rfl) rfl (by kernel_rfl) rfl ?_; intro w9 RZ S9))
      have hno : (Value.slice pv (min x.parts.length 7 + 1) cv).ownBlock ≠ some gr := fun e => by
        obtain ⟨cs2, h⟩ := own_cells HOW2.out e
        have h2 := h.symm.trans RRS
        simp at h2
      obtain ⟨hll, p9, c9, hv9, hE9⟩ := els_ownG ptv 2 (0, 0) (fun _ => rfl) (by omega) (ownW_stored HOW2.out S9 hno)
      refine bodyPost_ret (v := .agg #[.int .i64 4, .int .u32 (1 + (x.a : Int)), .int .u32 0, .string ByteArray.empty, (.slice pv (min x.parts.length 7 + 1) cv), .slice none 0 0, .int .i32 0, .int .i64 0]) (res_row rfl _ _ RZ rfl Tryz.underlying48 rfl (by kernel_rfl)) rfl ⟨.slice pv (min x.parts.length 7 + 1) cv, .slice none 0 0, rfl, ?_, ns_nil _ _, fresh_own (ownW_stored HOW2.out S9 hno) (Nat.le_refl _), fresh_nil _ _, S9.below HB2.out HGX.out.2.1⟩
      rw [← Sc.rawPts_all x]
      exact ⟨p9, c9, hv9, hE9⟩
end Go.Proofs.YtbhjkddjgikaiaaGreatDoor
