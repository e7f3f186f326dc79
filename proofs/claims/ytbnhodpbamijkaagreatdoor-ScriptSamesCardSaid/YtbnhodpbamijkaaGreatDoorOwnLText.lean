/-
  Own texts, several in one (LText, LText2, Make8).
-/
import Derived.Test.YtbnhodpbamijkaaGreatDoorMrg28
namespace Go.Proofs.YtbnhodpbamijkaaGreatDoor
open Go.RowKit
set_option linter.unusedVariables false
set_option linter.unusedSimpArgs false

theorem text1_any (n : Nat) (h : n ≤ 4294967295) (w : World) (hG : Glb w) :
    Calls Tryz.prog 43 #[.int .u32 (n : Int)] w fun e w' => e = .returned (.string ⟨(Sc.dec n).toArray⟩) ∧ Below w.heap.size w w' := by
  have hi := itoa_any (n : Int) (by unfold Wd.I64; omega) w hG
  rw [Lib.itoa_nonneg] at hi
  have HI : Hid (Calls Tryz.prog 44 #[.int .i64 (n : Int)] w fun e w' => e = .returned (.string ⟨(Sc.dec n).toArray⟩) ∧ Below w.heap.size w w') := Lib.hid hi
  have e1 : IntKind.i64.wrap (n : Int) = (n : Int) := by rw [IntKind.wrap_i64]; omega
  clear hG hi h
  go_enter Tryz.func43, Tryz.ntmps43
  go_wp2_with fail
  refine HI.out.mono ?_
  rintro _ w1 ⟨rfl, hb⟩
  go_wp2
  go_ret
  exact ⟨rfl, hb⟩
theorem quiet1 {S : World → Prop} (hS : ∀ w w', S w → Below w.heap.size w w' → S w') {f : FuncId} {args : Array Value} {v : Value} (n : QW S) (h : Calls Tryz.prog f args n.w fun e w' => e = .returned v ∧ Below n.w.heap.size n.w w') :
    Calls Tryz.prog f args n.w fun e w'' => e = .returned v ∧ ∃ m : QW S, w'' = m.w := Calls.quietS (h.mono fun _ w' ⟨a, b⟩ => ⟨a, hS _ _ n.h b⟩)
theorem str5 (a b : List UInt8) (x y z : List UInt8) : (⟨x.toArray⟩ : ByteArray) ++ ⟨a.toArray⟩ ++ ⟨y.toArray⟩ ++ ⟨b.toArray⟩ ++ ⟨z.toArray⟩ = ⟨(x ++ (a ++ (y ++ (b ++ z)))).toArray⟩ := by
  apply ByteArray.ext
  simp
set_option maxHeartbeats 4000000 in
set_option maxRecDepth 100000 in
theorem ltext_0 (o : Sc.Op) (vp vs : Value) (ho : o.can) (hk : o.kind = 0) (w : World) (hM : Glb13 w) :
    Calls Tryz.prog 22 #[.agg (opc o vp vs).toArray] w fun e w' => e = .returned (.string ⟨(Sc.text Dy.text o).toArray⟩) ∧ Below w.heap.size w w' := by
  have HM := Lib.hid hM
  have hx : Sc.text Dy.text o = [114, 101, 110, 117, 109, 98, 101, 114, 32] ++ (Sc.dec o.fr ++ ([32, 116, 111, 32] ++ (Sc.dec o.too ++ [59]))) := by
    unfold Sc.text
    rw [if_neg (by omega), if_neg (by omega), if_neg (by omega), hk]
    simp [Sc.word, Sc.words, Sc.link, Sc.links]
  rw [hx]
  have HF := Lib.hid fun W hW => text1_any o.fr ho.fr W hW
  have HT := Lib.hid fun W hW => text1_any o.too ho.too W hW
  have b1 : (Sc.dec o.fr).length ≤ 20 := dec_len _ (by have := ho.fr; omega)
  have b2 : (Sc.dec o.too).length ≤ 20 := dec_len _ (by have := ho.too; omega)
  have H5 := Lib.hid (str5 (Sc.dec o.fr) (Sc.dec o.too) [114, 101, 110, 117, 109, 98, 101, 114, 32] [32, 116, 111, 32] [59])
  clear hM hx
  unfold opc
  rw [hk, show ((0 : Nat) : Int) = 0 from rfl]
  generalize Sc.dec o.fr = x3 at *
  generalize Sc.dec o.too = x4 at *
  go_enter Tryz.func22, Tryz.ntmps22
  go_wp2_with fail
  have HBX := Lib.hid (below_alloc (Below.refl _ w) (.cells #[.int .i64 0, .int .u32 (o.fr : Int), .int .u32 (o.too : Int), .string ⟨o.name.toArray⟩, vp, vs, .int .i32 o.fin, .int .i64 (o.pos : Int)] 53))
  have RX := Row.new w #[.int .i64 0, .int .u32 (o.fr : Int), .int .u32 (o.too : Int), .string ⟨o.name.toArray⟩, vp, vs, .int .i32 o.fin, .int .i64 (o.pos : Int)] 53
  obtain ⟨gx, hgx⟩ : ∃ g, g = w.heap.size := ⟨_, rfl⟩
  rw [← hgx] at RX ⊢
  generalize w.alloc (.cells #[.int .i64 0, .int .u32 (o.fr : Int), .int .u32 (o.too : Int), .string ⟨o.name.toArray⟩, vp, vs, .int .i32 o.fin, .int .i64 (o.pos : Int)] 53) = wr at *
  have HRX := Lib.hid RX
  have d1 : ∀ n : QW (fun w' => Below wr.heap.size wr w'), n.w.cell? ⟨gx, 1, none⟩ = some (.int .u32 (o.fr : Int)) := fun n => (HRX.out.below n.h).cell 1
  have d2 : ∀ n : QW (fun w' => Below wr.heap.size wr w'), n.w.cell? ⟨gx, 2, none⟩ = some (.int .u32 (o.too : Int)) := fun n => (HRX.out.below n.h).cell 2
  have l0 : 9 + x3.length ≤ 9223372036854775807 := by omega
  have l1 : 9 + x3.length + 4 ≤ 9223372036854775807 := by omega
  have l2 : 9 + x3.length + 4 + x4.length ≤ 9223372036854775807 := by omega
  have l3 : 9 + x3.length + 4 + x4.length + 1 ≤ 9223372036854775807 := by omega
  have H1 := Lib.hid fun n : QW (fun w' => Below wr.heap.size wr w') => quiet1 (fun _ _ a b => below_then a b) n (HF.out n.w ((HM.out.below (below_then HBX.out n.h)).g5.glb))
  have H2 := Lib.hid fun n : QW (fun w' => Below wr.heap.size wr w') => quiet1 (fun _ _ a b => below_then a b) n (HT.out n.w ((HM.out.below (below_then HBX.out n.h)).g5.glb))
  clear RX hgx
  refine region_quietS (fun w' => Below wr.heap.size wr w') (by kernel_rfl) (by kernel_rfl) (below_dr (Below.refl _ _)) (fun hne => ?_)
  repeat (go_big_quiet_step (first | (with_reducible exact H1.out _) | (with_reducible exact H2.out _)))
  refine wpQuiet_nil ?_
  intro _ hw'
  obtain ⟨⟨wy, S⟩, rfl⟩ := hw'
  have HB := Lib.hid (below_then HBX.out S)
  clear d1 d2 l0 l1 l2 l3
  go_wp2_with fail
  go_ret
  exact ⟨congrArg (fun x => Ending.returned (Value.string x)) H5.out, HB.out⟩
set_option maxHeartbeats 4000000 in
set_option maxRecDepth 100000 in
theorem ltext_2 (o : Sc.Op) (vp vs : Value) (ho : o.can) (hk : o.kind = 2) (w : World) (hM : Glb13 w) :
    Calls Tryz.prog 22 #[.agg (opc o vp vs).toArray] w fun e w' => e = .returned (.string ⟨(Sc.text Dy.text o).toArray⟩) ∧ Below w.heap.size w w' := by
  have HM := Lib.hid hM
  have hx : Sc.text Dy.text o = [114, 101, 112, 97, 114, 101, 110, 116, 32] ++ (Sc.dec o.fr ++ ([32, 117, 110, 100, 101, 114, 32] ++ (Sc.dec o.too ++ [59]))) := by
    unfold Sc.text
    rw [if_neg (by omega), if_neg (by omega), if_neg (by omega), hk]
    simp [Sc.word, Sc.words, Sc.link, Sc.links]
  rw [hx]
  have HF := Lib.hid fun W hW => text1_any o.fr ho.fr W hW
  have HT := Lib.hid fun W hW => text1_any o.too ho.too W hW
  have b1 : (Sc.dec o.fr).length ≤ 20 := dec_len _ (by have := ho.fr; omega)
  have b2 : (Sc.dec o.too).length ≤ 20 := dec_len _ (by have := ho.too; omega)
  have H5 := Lib.hid (str5 (Sc.dec o.fr) (Sc.dec o.too) [114, 101, 112, 97, 114, 101, 110, 116, 32] [32, 117, 110, 100, 101, 114, 32] [59])
  clear hM hx
  unfold opc
  rw [hk, show ((2 : Nat) : Int) = 2 from rfl]
  generalize Sc.dec o.fr = x3 at *
  generalize Sc.dec o.too = x4 at *
  go_enter Tryz.func22, Tryz.ntmps22
  go_wp2_with fail
  have HBX := Lib.hid (below_alloc (Below.refl _ w) (.cells #[.int .i64 2, .int .u32 (o.fr : Int), .int .u32 (o.too : Int), .string ⟨o.name.toArray⟩, vp, vs, .int .i32 o.fin, .int .i64 (o.pos : Int)] 53))
  have RX := Row.new w #[.int .i64 2, .int .u32 (o.fr : Int), .int .u32 (o.too : Int), .string ⟨o.name.toArray⟩, vp, vs, .int .i32 o.fin, .int .i64 (o.pos : Int)] 53
  obtain ⟨gx, hgx⟩ : ∃ g, g = w.heap.size := ⟨_, rfl⟩
  rw [← hgx] at RX ⊢
  generalize w.alloc (.cells #[.int .i64 2, .int .u32 (o.fr : Int), .int .u32 (o.too : Int), .string ⟨o.name.toArray⟩, vp, vs, .int .i32 o.fin, .int .i64 (o.pos : Int)] 53) = wr at *
  have HRX := Lib.hid RX
  have d1 : ∀ n : QW (fun w' => Below wr.heap.size wr w'), n.w.cell? ⟨gx, 1, none⟩ = some (.int .u32 (o.fr : Int)) := fun n => (HRX.out.below n.h).cell 1
  have d2 : ∀ n : QW (fun w' => Below wr.heap.size wr w'), n.w.cell? ⟨gx, 2, none⟩ = some (.int .u32 (o.too : Int)) := fun n => (HRX.out.below n.h).cell 2
  have l0 : 9 + x3.length ≤ 9223372036854775807 := by omega
  have l1 : 9 + x3.length + 7 ≤ 9223372036854775807 := by omega
  have l2 : 9 + x3.length + 7 + x4.length ≤ 9223372036854775807 := by omega
  have l3 : 9 + x3.length + 7 + x4.length + 1 ≤ 9223372036854775807 := by omega
  have H1 := Lib.hid fun n : QW (fun w' => Below wr.heap.size wr w') => quiet1 (fun _ _ a b => below_then a b) n (HF.out n.w ((HM.out.below (below_then HBX.out n.h)).g5.glb))
  have H2 := Lib.hid fun n : QW (fun w' => Below wr.heap.size wr w') => quiet1 (fun _ _ a b => below_then a b) n (HT.out n.w ((HM.out.below (below_then HBX.out n.h)).g5.glb))
  clear RX hgx
  refine region_quietS (fun w' => Below wr.heap.size wr w') (by kernel_rfl) (by kernel_rfl) (below_dr (Below.refl _ _)) (fun hne => ?_)
  repeat (go_big_quiet_step (first | (with_reducible exact H1.out _) | (with_reducible exact H2.out _)))
  refine wpQuiet_nil ?_
  intro _ hw'
  obtain ⟨⟨wy, S⟩, rfl⟩ := hw'
  have HB := Lib.hid (below_then HBX.out S)
  clear d1 d2 l0 l1 l2 l3
  go_wp2_with fail
  go_ret
  exact ⟨congrArg (fun x => Ending.returned (Value.string x)) H5.out, HB.out⟩
set_option maxHeartbeats 4000000 in
set_option maxRecDepth 100000 in
theorem ltext_3 (o : Sc.Op) (vp vs : Value) (ho : o.can) (hk : o.kind = 3) (w : World) (hM : Glb13 w) :
    Calls Tryz.prog 22 #[.agg (opc o vp vs).toArray] w fun e w' => e = .returned (.string ⟨(Sc.text Dy.text o).toArray⟩) ∧ Below w.heap.size w w' := by
  have HM := Lib.hid hM
  have hx : Sc.text Dy.text o = [109, 101, 114, 103, 101, 32] ++ (Sc.dec o.fr ++ ([32, 105, 110, 116, 111, 32] ++ (Sc.dec o.too ++ [59]))) := by
    unfold Sc.text
    rw [if_neg (by omega), if_neg (by omega), if_neg (by omega), hk]
    simp [Sc.word, Sc.words, Sc.link, Sc.links]
  rw [hx]
  have HF := Lib.hid fun W hW => text1_any o.fr ho.fr W hW
  have HT := Lib.hid fun W hW => text1_any o.too ho.too W hW
  have b1 : (Sc.dec o.fr).length ≤ 20 := dec_len _ (by have := ho.fr; omega)
  have b2 : (Sc.dec o.too).length ≤ 20 := dec_len _ (by have := ho.too; omega)
  have H5 := Lib.hid (str5 (Sc.dec o.fr) (Sc.dec o.too) [109, 101, 114, 103, 101, 32] [32, 105, 110, 116, 111, 32] [59])
  clear hM hx
  unfold opc
  rw [hk, show ((3 : Nat) : Int) = 3 from rfl]
  generalize Sc.dec o.fr = x3 at *
  generalize Sc.dec o.too = x4 at *
  go_enter Tryz.func22, Tryz.ntmps22
  go_wp2_with fail
  have HBX := Lib.hid (below_alloc (Below.refl _ w) (.cells #[.int .i64 3, .int .u32 (o.fr : Int), .int .u32 (o.too : Int), .string ⟨o.name.toArray⟩, vp, vs, .int .i32 o.fin, .int .i64 (o.pos : Int)] 53))
  have RX := Row.new w #[.int .i64 3, .int .u32 (o.fr : Int), .int .u32 (o.too : Int), .string ⟨o.name.toArray⟩, vp, vs, .int .i32 o.fin, .int .i64 (o.pos : Int)] 53
  obtain ⟨gx, hgx⟩ : ∃ g, g = w.heap.size := ⟨_, rfl⟩
  rw [← hgx] at RX ⊢
  generalize w.alloc (.cells #[.int .i64 3, .int .u32 (o.fr : Int), .int .u32 (o.too : Int), .string ⟨o.name.toArray⟩, vp, vs, .int .i32 o.fin, .int .i64 (o.pos : Int)] 53) = wr at *
  have HRX := Lib.hid RX
  have d1 : ∀ n : QW (fun w' => Below wr.heap.size wr w'), n.w.cell? ⟨gx, 1, none⟩ = some (.int .u32 (o.fr : Int)) := fun n => (HRX.out.below n.h).cell 1
  have d2 : ∀ n : QW (fun w' => Below wr.heap.size wr w'), n.w.cell? ⟨gx, 2, none⟩ = some (.int .u32 (o.too : Int)) := fun n => (HRX.out.below n.h).cell 2
  have l0 : 6 + x3.length ≤ 9223372036854775807 := by omega
  have l1 : 6 + x3.length + 6 ≤ 9223372036854775807 := by omega
  have l2 : 6 + x3.length + 6 + x4.length ≤ 9223372036854775807 := by omega
  have l3 : 6 + x3.length + 6 + x4.length + 1 ≤ 9223372036854775807 := by omega
  have H1 := Lib.hid fun n : QW (fun w' => Below wr.heap.size wr w') => quiet1 (fun _ _ a b => below_then a b) n (HF.out n.w ((HM.out.below (below_then HBX.out n.h)).g5.glb))
  have H2 := Lib.hid fun n : QW (fun w' => Below wr.heap.size wr w') => quiet1 (fun _ _ a b => below_then a b) n (HT.out n.w ((HM.out.below (below_then HBX.out n.h)).g5.glb))
  clear RX hgx
  refine region_quietS (fun w' => Below wr.heap.size wr w') (by kernel_rfl) (by kernel_rfl) (below_dr (Below.refl _ _)) (fun hne => ?_)
  repeat (go_big_quiet_step (first | (with_reducible exact H1.out _) | (with_reducible exact H2.out _)))
  refine wpQuiet_nil ?_
  intro _ hw'
  obtain ⟨⟨wy, S⟩, rfl⟩ := hw'
  have HB := Lib.hid (below_then HBX.out S)
  clear d1 d2 l0 l1 l2 l3
  go_wp2_with fail
  go_ret
  exact ⟨congrArg (fun x => Ending.returned (Value.string x)) H5.out, HB.out⟩
set_option maxHeartbeats 4000000 in
set_option maxRecDepth 100000 in
theorem ltext_5 (o : Sc.Op) (vp vs : Value) (ho : o.can) (hk : o.kind = 5) (w : World) (hM : Glb13 w) :
    Calls Tryz.prog 22 #[.agg (opc o vp vs).toArray] w fun e w' => e = .returned (.string ⟨(Sc.text Dy.text o).toArray⟩) ∧ Below w.heap.size w w' := by
  have HM := Lib.hid hM
  have hx : Sc.text Dy.text o = [114, 101, 99, 111, 100, 101, 32] ++ (Sc.dec o.fr ++ ([32, 116, 111, 32] ++ (Sc.dec o.too ++ [59]))) := by
    unfold Sc.text
    rw [if_neg (by omega), if_neg (by omega), if_neg (by omega), hk]
    simp [Sc.word, Sc.words, Sc.link, Sc.links]
  rw [hx]
  have HF := Lib.hid fun W hW => text1_any o.fr ho.fr W hW
  have HT := Lib.hid fun W hW => text1_any o.too ho.too W hW
  have b1 : (Sc.dec o.fr).length ≤ 20 := dec_len _ (by have := ho.fr; omega)
  have b2 : (Sc.dec o.too).length ≤ 20 := dec_len _ (by have := ho.too; omega)
  have H5 := Lib.hid (str5 (Sc.dec o.fr) (Sc.dec o.too) [114, 101, 99, 111, 100, 101, 32] [32, 116, 111, 32] [59])
  clear hM hx
  unfold opc
  rw [hk, show ((5 : Nat) : Int) = 5 from rfl]
  generalize Sc.dec o.fr = x3 at *
  generalize Sc.dec o.too = x4 at *
  go_enter Tryz.func22, Tryz.ntmps22
  go_wp2_with fail
  have HBX := Lib.hid (below_alloc (Below.refl _ w) (.cells #[.int .i64 5, .int .u32 (o.fr : Int), .int .u32 (o.too : Int), .string ⟨o.name.toArray⟩, vp, vs, .int .i32 o.fin, .int .i64 (o.pos : Int)] 53))
  have RX := Row.new w #[.int .i64 5, .int .u32 (o.fr : Int), .int .u32 (o.too : Int), .string ⟨o.name.toArray⟩, vp, vs, .int .i32 o.fin, .int .i64 (o.pos : Int)] 53
  obtain ⟨gx, hgx⟩ : ∃ g, g = w.heap.size := ⟨_, rfl⟩
  rw [← hgx] at RX ⊢
  generalize w.alloc (.cells #[.int .i64 5, .int .u32 (o.fr : Int), .int .u32 (o.too : Int), .string ⟨o.name.toArray⟩, vp, vs, .int .i32 o.fin, .int .i64 (o.pos : Int)] 53) = wr at *
  have HRX := Lib.hid RX
  have d1 : ∀ n : QW (fun w' => Below wr.heap.size wr w'), n.w.cell? ⟨gx, 1, none⟩ = some (.int .u32 (o.fr : Int)) := fun n => (HRX.out.below n.h).cell 1
  have d2 : ∀ n : QW (fun w' => Below wr.heap.size wr w'), n.w.cell? ⟨gx, 2, none⟩ = some (.int .u32 (o.too : Int)) := fun n => (HRX.out.below n.h).cell 2
  have l0 : 7 + x3.length ≤ 9223372036854775807 := by omega
  have l1 : 7 + x3.length + 4 ≤ 9223372036854775807 := by omega
  have l2 : 7 + x3.length + 4 + x4.length ≤ 9223372036854775807 := by omega
  have l3 : 7 + x3.length + 4 + x4.length + 1 ≤ 9223372036854775807 := by omega
  have H1 := Lib.hid fun n : QW (fun w' => Below wr.heap.size wr w') => quiet1 (fun _ _ a b => below_then a b) n (HF.out n.w ((HM.out.below (below_then HBX.out n.h)).g5.glb))
  have H2 := Lib.hid fun n : QW (fun w' => Below wr.heap.size wr w') => quiet1 (fun _ _ a b => below_then a b) n (HT.out n.w ((HM.out.below (below_then HBX.out n.h)).g5.glb))
  clear RX hgx
  refine region_quietS (fun w' => Below wr.heap.size wr w') (by kernel_rfl) (by kernel_rfl) (below_dr (Below.refl _ _)) (fun hne => ?_)
  repeat (go_big_quiet_step (first | (with_reducible exact H1.out _) | (with_reducible exact H2.out _)))
  refine wpQuiet_nil ?_
  intro _ hw'
  obtain ⟨⟨wy, S⟩, rfl⟩ := hw'
  have HB := Lib.hid (below_then HBX.out S)
  clear d1 d2 l0 l1 l2 l3
  go_wp2_with fail
  go_ret
  exact ⟨congrArg (fun x => Ending.returned (Value.string x)) H5.out, HB.out⟩
set_option maxHeartbeats 4000000 in
set_option maxRecDepth 100000 in
theorem ltext_6 (o : Sc.Op) (vp vs : Value) (ho : o.can) (hk : o.kind = 6) (w : World) (hM : Glb13 w) :
    Calls Tryz.prog 22 #[.agg (opc o vp vs).toArray] w fun e w' => e = .returned (.string ⟨(Sc.text Dy.text o).toArray⟩) ∧ Below w.heap.size w w' := by
  have HM := Lib.hid hM
  have hx : Sc.text Dy.text o = [106, 111, 105, 110, 32] ++ (Sc.dec o.fr ++ ([32, 105, 110, 116, 111, 32] ++ (Sc.dec o.too ++ [59]))) := by
    unfold Sc.text
    rw [if_neg (by omega), if_neg (by omega), if_neg (by omega), hk]
    simp [Sc.word, Sc.words, Sc.link, Sc.links]
  rw [hx]
  have HF := Lib.hid fun W hW => text1_any o.fr ho.fr W hW
  have HT := Lib.hid fun W hW => text1_any o.too ho.too W hW
  have b1 : (Sc.dec o.fr).length ≤ 20 := dec_len _ (by have := ho.fr; omega)
  have b2 : (Sc.dec o.too).length ≤ 20 := dec_len _ (by have := ho.too; omega)
  have H5 := Lib.hid (str5 (Sc.dec o.fr) (Sc.dec o.too) [106, 111, 105, 110, 32] [32, 105, 110, 116, 111, 32] [59])
  clear hM hx
  unfold opc
  rw [hk, show ((6 : Nat) : Int) = 6 from rfl]
  generalize Sc.dec o.fr = x3 at *
  generalize Sc.dec o.too = x4 at *
  go_enter Tryz.func22, Tryz.ntmps22
  go_wp2_with fail
  have HBX := Lib.hid (below_alloc (Below.refl _ w) (.cells #[.int .i64 6, .int .u32 (o.fr : Int), .int .u32 (o.too : Int), .string ⟨o.name.toArray⟩, vp, vs, .int .i32 o.fin, .int .i64 (o.pos : Int)] 53))
  have RX := Row.new w #[.int .i64 6, .int .u32 (o.fr : Int), .int .u32 (o.too : Int), .string ⟨o.name.toArray⟩, vp, vs, .int .i32 o.fin, .int .i64 (o.pos : Int)] 53
  obtain ⟨gx, hgx⟩ : ∃ g, g = w.heap.size := ⟨_, rfl⟩
  rw [← hgx] at RX ⊢
  generalize w.alloc (.cells #[.int .i64 6, .int .u32 (o.fr : Int), .int .u32 (o.too : Int), .string ⟨o.name.toArray⟩, vp, vs, .int .i32 o.fin, .int .i64 (o.pos : Int)] 53) = wr at *
  have HRX := Lib.hid RX
  have d1 : ∀ n : QW (fun w' => Below wr.heap.size wr w'), n.w.cell? ⟨gx, 1, none⟩ = some (.int .u32 (o.fr : Int)) := fun n => (HRX.out.below n.h).cell 1
  have d2 : ∀ n : QW (fun w' => Below wr.heap.size wr w'), n.w.cell? ⟨gx, 2, none⟩ = some (.int .u32 (o.too : Int)) := fun n => (HRX.out.below n.h).cell 2
  have l0 : 5 + x3.length ≤ 9223372036854775807 := by omega
  have l1 : 5 + x3.length + 6 ≤ 9223372036854775807 := by omega
  have l2 : 5 + x3.length + 6 + x4.length ≤ 9223372036854775807 := by omega
  have l3 : 5 + x3.length + 6 + x4.length + 1 ≤ 9223372036854775807 := by omega
  have H1 := Lib.hid fun n : QW (fun w' => Below wr.heap.size wr w') => quiet1 (fun _ _ a b => below_then a b) n (HF.out n.w ((HM.out.below (below_then HBX.out n.h)).g5.glb))
  have H2 := Lib.hid fun n : QW (fun w' => Below wr.heap.size wr w') => quiet1 (fun _ _ a b => below_then a b) n (HT.out n.w ((HM.out.below (below_then HBX.out n.h)).g5.glb))
  clear RX hgx
  refine region_quietS (fun w' => Below wr.heap.size wr w') (by kernel_rfl) (by kernel_rfl) (below_dr (Below.refl _ _)) (fun hne => ?_)
  repeat (go_big_quiet_step (first | (with_reducible exact H1.out _) | (with_reducible exact H2.out _)))
  refine wpQuiet_nil ?_
  intro _ hw'
  obtain ⟨⟨wy, S⟩, rfl⟩ := hw'
  have HB := Lib.hid (below_then HBX.out S)
  clear d1 d2 l0 l1 l2 l3
  go_wp2_with fail
  go_ret
  exact ⟨congrArg (fun x => Ending.returned (Value.string x)) H5.out, HB.out⟩
set_option maxHeartbeats 4000000 in
set_option maxRecDepth 100000 in
theorem ltext_1 (o : Sc.Op) (vp vs : Value) (ho : o.can) (hk : o.kind = 1) (w : World) (hM : Glb13 w) :
    Calls Tryz.prog 22 #[.agg (opc o vp vs).toArray] w fun e w' => e = .returned (.string ⟨(Sc.text Dy.text o).toArray⟩) ∧ Below w.heap.size w w' := by
  have HM := Lib.hid hM
  have hx : Sc.text Dy.text o = [114, 101, 110, 97, 109, 101, 32] ++ (Sc.dec o.fr ++ ([32, 34] ++ (o.name ++ [34, 59]))) := by
    unfold Sc.text
    rw [if_pos hk]
    simp [Sc.word, Sc.words]
  rw [hx]
  have HF := Lib.hid fun W hW => text1_any o.fr ho.fr W hW
  have b1 : (Sc.dec o.fr).length ≤ 20 := dec_len _ (by have := ho.fr; omega)
  have b2 := ho.name
  have H5 := Lib.hid (str5 (Sc.dec o.fr) o.name [114, 101, 110, 97, 109, 101, 32] [32, 34] [34, 59])
  clear hM hx
  unfold opc
  rw [hk, show ((1 : Nat) : Int) = 1 from rfl]
  generalize Sc.dec o.fr = x3 at *
  go_enter Tryz.func22, Tryz.ntmps22
  go_wp2_with fail
  have HBX := Lib.hid (below_alloc (Below.refl _ w) (.cells #[.int .i64 1, .int .u32 (o.fr : Int), .int .u32 (o.too : Int), .string ⟨o.name.toArray⟩, vp, vs, .int .i32 o.fin, .int .i64 (o.pos : Int)] 53))
  have RX := Row.new w #[.int .i64 1, .int .u32 (o.fr : Int), .int .u32 (o.too : Int), .string ⟨o.name.toArray⟩, vp, vs, .int .i32 o.fin, .int .i64 (o.pos : Int)] 53
  obtain ⟨gx, hgx⟩ : ∃ g, g = w.heap.size := ⟨_, rfl⟩
  rw [← hgx] at RX ⊢
  generalize w.alloc (.cells #[.int .i64 1, .int .u32 (o.fr : Int), .int .u32 (o.too : Int), .string ⟨o.name.toArray⟩, vp, vs, .int .i32 o.fin, .int .i64 (o.pos : Int)] 53) = wr at *
  have HRX := Lib.hid RX
  have d1 : ∀ n : QW (fun w' => Below wr.heap.size wr w'), n.w.cell? ⟨gx, 1, none⟩ = some (.int .u32 (o.fr : Int)) := fun n => (HRX.out.below n.h).cell 1
  have d2 : ∀ n : QW (fun w' => Below wr.heap.size wr w'), n.w.cell? ⟨gx, 3, none⟩ = some (.string ⟨o.name.toArray⟩) := fun n => (HRX.out.below n.h).cell 3
  have l0 : 7 + x3.length ≤ 9223372036854775807 := by omega
  have l1 : 7 + x3.length + 2 ≤ 9223372036854775807 := by omega
  have l2 : 7 + x3.length + 2 + o.name.length ≤ 9223372036854775807 := by omega
  have l3 : 7 + x3.length + 2 + o.name.length + 2 ≤ 9223372036854775807 := by omega
  have H1 := Lib.hid fun n : QW (fun w' => Below wr.heap.size wr w') => quiet1 (fun _ _ a b => below_then a b) n (HF.out n.w ((HM.out.below (below_then HBX.out n.h)).g5.glb))
  clear RX hgx
  refine region_quietS (fun w' => Below wr.heap.size wr w') (by kernel_rfl) (by kernel_rfl) (below_dr (Below.refl _ _)) (fun hne => ?_)
  repeat (go_big_quiet_step ((with_reducible exact H1.out _)))
  refine wpQuiet_nil ?_
  intro _ hw'
  obtain ⟨⟨wy, S⟩, rfl⟩ := hw'
  have HB := Lib.hid (below_then HBX.out S)
  clear d1 d2 l0 l1 l2 l3
  go_wp2_with fail
  go_ret
  exact ⟨congrArg (fun x => Ending.returned (Value.string x)) H5.out, HB.out⟩
end Go.Proofs.YtbnhodpbamijkaaGreatDoor

namespace Go.Proofs.YtbnhodpbamijkaaGreatDoor
open Go.RowKit
set_option linter.unusedVariables false
set_option linter.unusedSimpArgs false

theorem spart_len (q : Nat × Nat) (h : q.1 ≤ 4294967295 ∧ q.2 ≤ 4294967295) : (Sc.part q).length ≤ 42 := by
  have := prt_len q h
  unfold prt at this
  unfold Sc.part
  simp at this ⊢
  omega
theorem partsT_len (l : List (Nat × Nat)) (h : ∀ p ∈ l, p.1 ≤ 4294967295 ∧ p.2 ≤ 4294967295) : (Sc.partsT l).length ≤ 43 * l.length := by
  rcases l with _ | ⟨p, r⟩
  · simp [Sc.partsT]
  · have key : ∀ l : List (Nat × Nat), (∀ p ∈ l, p.1 ≤ 4294967295 ∧ p.2 ≤ 4294967295) → (l.flatMap fun q => 44 :: Sc.part q).length ≤ 43 * l.length := fun l => by
      induction l with
      | nil => intro _; simp
      | cons q r ih =>
        intro h
        have h1 := ih fun x hx => h x (List.mem_cons_of_mem _ hx)
        have h2 := spart_len q (h q (by simp))
        rw [List.flatMap_cons, List.length_append, List.length_cons, List.length_cons]
        omega
    have h1 := key r fun x hx => h x (List.mem_cons_of_mem _ hx)
    have h2 := spart_len p (h p (by simp))
    show (Sc.part p ++ r.flatMap fun q => 44 :: Sc.part q).length ≤ _
    rw [List.length_append, List.length_cons]
    omega
theorem parts_snoc (l : List (Nat × Nat)) (k : Nat) (h : k < l.length) : Sc.partsT (l.take (k + 1)) = Sc.partsT (l.take k) ++ ((if 0 < k then [44] else []) ++ Sc.part (l.getD k (0, 0))) := by
  rcases l with _ | ⟨p, r⟩
  · simp at h
  · rcases k with _ | k
    · simp [Sc.partsT]
    · have hk : k < r.length := by simpa using h
      rw [List.take_succ_cons, List.take_succ_cons]
      show Sc.part p ++ ((r.take (k + 1)).flatMap fun q => 44 :: Sc.part q) = (Sc.part p ++ (r.take k).flatMap fun q => 44 :: Sc.part q) ++ _
      rw [List.take_succ_eq_append_getElem hk, List.flatMap_append, if_pos (by omega), List.getD_cons_succ, List.getD_eq_getElem?_getD, List.getElem?_eq_getElem hk]
      simp
theorem take_partsT_len (l : List (Nat × Nat)) (k : Nat) (h : l.length ≤ 100 ∧ ∀ p ∈ l, p.1 ≤ 4294967295 ∧ p.2 ≤ 4294967295) : (Sc.partsT (l.take k)).length ≤ 4300 := by
  have h1 := partsT_len (l.take k) fun p hp => h.2 p (List.mem_of_mem_take hp)
  have h2 : (l.take k).length ≤ l.length := by rw [List.length_take]; omega
  omega
set_option maxHeartbeats 8000000 in
set_option maxRecDepth 100000 in
theorem ltext_4 (o : Sc.Op) (vp vs : Value) (ho : o.can) (hk : o.kind = 4) (w : World) (hP : PtsAt w vp o.parts) (hM : Glb13 w) :
    Calls Tryz.prog 22 #[.agg (opc o vp vs).toArray] w fun e w' => e = .returned (.string ⟨(Sc.text Dy.text o).toArray⟩) ∧ Below w.heap.size w w' := by
  have HM := Lib.hid hM
  have hx : Sc.text Dy.text o = ([115, 112, 108, 105, 116, 32] ++ (Sc.dec o.fr ++ [32, 105, 110, 116, 111])) ++ (Sc.partsT o.parts ++ [59]) := by
    unfold Sc.text
    rw [if_neg (by omega), if_pos hk]
    simp [Sc.word, Sc.words, Sc.link, Sc.links]
  rw [hx]
  have HF := Lib.hid fun W hW => text1_any o.fr ho.fr W hW
  have b1 : (Sc.dec o.fr).length ≤ 20 := dec_len _ (by have := ho.fr; omega)
  have HPL := Lib.hid ho.parts.2
  obtain ⟨pp, cp, rfl, hE⟩ := hP
  have HE := Lib.hid hE
  clear hM hx hE
  unfold opc
  rw [hk, show ((4 : Nat) : Int) = 4 from rfl]
  generalize Sc.dec o.fr = x3 at *
  have l0 : 6 + x3.length ≤ 9223372036854775807 := by omega
  have l1 : 6 + x3.length + 5 ≤ 9223372036854775807 := by omega
  go_enter Tryz.func22, Tryz.ntmps22
  go_wp2_with fail
  have HBX := Lib.hid (below_alloc (Below.refl _ w) (.cells #[.int .i64 4, .int .u32 (o.fr : Int), .int .u32 (o.too : Int), .string ⟨o.name.toArray⟩, .slice pp o.parts.length cp, vs, .int .i32 o.fin, .int .i64 (o.pos : Int)] 53))
  have RX := Row.new w #[.int .i64 4, .int .u32 (o.fr : Int), .int .u32 (o.too : Int), .string ⟨o.name.toArray⟩, .slice pp o.parts.length cp, vs, .int .i32 o.fin, .int .i64 (o.pos : Int)] 53
  obtain ⟨gx, hgx⟩ : ∃ g, g = w.heap.size := ⟨_, rfl⟩
  rw [← hgx] at RX ⊢
  generalize w.alloc (.cells #[.int .i64 4, .int .u32 (o.fr : Int), .int .u32 (o.too : Int), .string ⟨o.name.toArray⟩, .slice pp o.parts.length cp, vs, .int .i32 o.fin, .int .i64 (o.pos : Int)] 53) = wa at *
  refine (HF.out wa ((HM.out.below HBX.out).g5.glb)).mono ?_
  rintro _ wb ⟨rfl, hb⟩
  have HRX := Lib.hid (RX.below hb)
  have HBW := Lib.hid (below_then HBX.out hb)
  have c4 : wb.cell? ⟨gx, 4, none⟩ = some (.slice pp o.parts.length cp) := HRX.out.cell 4
  clear RX hgx hb
  go_wp2_with fail
  obtain ⟨xp, hxp⟩ : ∃ x, x = [115, 112, 108, 105, 116, 32] ++ (x3 ++ [32, 105, 110, 116, 111]) := ⟨_, rfl⟩
  have hpl : xp.length ≤ 100 := by rw [hxp]; simp; omega
  have HXP := Lib.hid hpl
  have HXQ0 := Lib.hid hxp
  clear c4 hpl l0 l1
  go_loopw [4, 105] (fun tv iv wr' => ∃ (k : Nat) (x : ByteArray), k ≤ o.parts.length ∧ iv = .int .i64 (k : Int) ∧ tv = .string x ∧ x.data.toList = xp ++ Sc.partsT (o.parts.take k) ∧ Below w.heap.size w wr' ∧ Row wr' gx #[.int .i64 4, .int .u32 (o.fr : Int), .int .u32 (o.too : Int), .string ⟨o.name.toArray⟩, .slice pp o.parts.length cp, vs, .int .i32 o.fin, .int .i64 (o.pos : Int)] 53) (fun _ iv _ => o.parts.length - (intOf iv).toNat)
  case atStart => exact ⟨0, _, by omega, rfl, rfl, by rw [hxp]; simp [Sc.partsT], HBW.out, HRX.out⟩
  case round =>
    obtain ⟨k, x, hk, rfl, rfl, hx, BB, RX3⟩ := hrel
    have HBW3 := Lib.hid BB
    have HRX3 := Lib.hid RX3
    have HXX := Lib.hid hx
    have hxs : x.size ≤ 5000 := by rw [size_data, hx, List.length_append]; have := take_partsT_len o.parts k HPL.out; have := HXP.out; omega
    clear BB RX3 hx hxp
    by_cases hlt : k < o.parts.length
    · obtain ⟨b, off, rfl, hc⟩ : ∃ b off, pp = some ⟨b, off, none⟩ ∧ ∀ i, i < o.parts.length → w.rangeAt b (off + i * 2) (ptv (o.parts.getD i (0, 0))) := by
        rcases HE.out with h | h
        · rw [h] at hlt; simp at hlt
        · exact h
      have ck := range_below (hc k hlt) HBW3.out
      have hq0 := HPL.out.2 _ (getD_mem (d := ((0 : Nat), (0 : Nat))) hlt)
      have i0 : (0 : Int) ≤ (k : Int) := by omega
      have i1 : (k : Int) < (o.parts.length : Int) := by omega
      have e1 : IntKind.i64.wrap ((k : Int) + 1) = (k : Int) + 1 := by have := HPL.out.1; rw [IntKind.wrap_i64]; omega
      have hst := parts_snoc o.parts k hlt
      have HI := Lib.hid hlt
      obtain ⟨q, hq⟩ : ∃ d, d = o.parts.getD k (0, 0) := ⟨_, rfl⟩
      rw [← hq] at ck hst hq0
      have c0 : wr.cell? ⟨b, off + k * 2, none⟩ = some (.int .u32 (q.1 : Int)) := ck 0 _ rfl
      have c1 : wr.cell? ⟨b, off + k * 2 + 1, none⟩ = some (.int .i64 (q.2 : Int)) := ck 1 _ rfl
      have HN1 := Lib.hid fun W hW => text1_any q.1 hq0.1 W hW
      have hn2 := fun W hW => itoa_any (q.2 : Int) (by unfold Wd.I64; omega) W hW
      rw [Lib.itoa_nonneg] at hn2
      have HN2 : Hid (∀ W, Glb W → Calls Tryz.prog 44 #[.int .i64 (q.2 : Int)] W fun e w' => e = .returned (.string ⟨(Sc.dec q.2).toArray⟩) ∧ Below W.heap.size W w') := Lib.hid hn2
      have HQL := Lib.hid (show (Sc.dec q.1).length ≤ 20 ∧ (Sc.dec q.2).length ≤ 20 from ⟨dec_len _ (by omega), dec_len _ (by omega)⟩)
      clear hc hlt hk hq ck hq0 hn2
      by_cases c : 0 < k
      · have lx : x.size + 1 ≤ 9223372036854775807 := by omega
        have HST : Hid (Sc.partsT (o.parts.take (k + 1)) = Sc.partsT (o.parts.take k) ++ ([44] ++ Sc.part q)) := Lib.hid (by rw [hst, if_pos c])
        have q0 : (0 : Int) < (k : Int) := by omega
        clear hst c
        go_wp2_with fail
        have R6 := Row.new wr #[.int .u32 (q.1 : Int), .int .i64 (q.2 : Int)] 79
        have B6 := below_alloc (Below.refl _ wr) (.cells #[.int .u32 (q.1 : Int), .int .i64 (q.2 : Int)] 79)
        obtain ⟨g6, hg6⟩ : ∃ g, g = wr.heap.size := ⟨_, rfl⟩
        rw [← hg6] at R6 ⊢
        generalize wr.alloc (.cells #[.int .u32 (q.1 : Int), .int .i64 (q.2 : Int)] 79) = wq at *
        have HR6 := Lib.hid R6
        have HBQ := Lib.hid (below_then HBW3.out B6)
        have HXQ := Lib.hid (HRX3.out.below B6)
        have d0 : ∀ n : QW (fun w' => Below wq.heap.size wq w'), n.w.cell? ⟨g6, 0, none⟩ = some (.int .u32 (q.1 : Int)) := fun n => (HR6.out.below n.h).cell 0
        have d1 : ∀ n : QW (fun w' => Below wq.heap.size wq w'), n.w.cell? ⟨g6, 1, none⟩ = some (.int .i64 (q.2 : Int)) := fun n => (HR6.out.below n.h).cell 1
        have l0 : 1 + (Sc.dec q.1).length ≤ 9223372036854775807 := by have := HQL.out; omega
        have l1 : 1 + (Sc.dec q.1).length + 1 ≤ 9223372036854775807 := by have := HQL.out; omega
        have l2 : 1 + (Sc.dec q.1).length + 1 + (Sc.dec q.2).length ≤ 9223372036854775807 := by have := HQL.out; omega
        have l3 : x.size + 1 + (1 + (Sc.dec q.1).length + 1 + (Sc.dec q.2).length) ≤ 9223372036854775807 := by have := HQL.out; omega
        have H1 := Lib.hid fun n : QW (fun w' => Below wq.heap.size wq w') => quiet1 (fun _ _ a b => below_then a b) n (HN1.out n.w ((HM.out.below (below_then HBQ.out n.h)).g5.glb))
        have H2 := Lib.hid fun n : QW (fun w' => Below wq.heap.size wq w') => quiet1 (fun _ _ a b => below_then a b) n (HN2.out n.w ((HM.out.below (below_then HBQ.out n.h)).g5.glb))
        clear R6 B6 hg6 c0 c1
        refine region_quietS (fun w' => Below wq.heap.size wq w') (by kernel_rfl) (by kernel_rfl) (below_dr (Below.refl _ _)) (fun hne => ?_)
        repeat (go_big_quiet_step (first | (with_reducible exact H1.out _) | (with_reducible exact H2.out _)))
        refine wpQuiet_nil ?_
        intro _ hw'
        obtain ⟨⟨wy, S⟩, rfl⟩ := hw'
        have HBY := Lib.hid (below_then HBQ.out S)
        have HXY := Lib.hid (HXQ.out.below S)
        clear d0 d1 l0 l1 l2 l3
        go_wp2_with fail
        exact ⟨⟨k + 1, _, HI.out, by simp, rfl, by rw [HST.out, ← List.append_assoc, ← HXX.out]; simp [Sc.part], HBY.out, HXY.out⟩, by have := HI.out; simp [intOf]; omega⟩
      ·
        have HST : Hid (Sc.partsT (o.parts.take (k + 1)) = Sc.partsT (o.parts.take k) ++ ([] ++ Sc.part q)) := Lib.hid (by rw [hst, if_neg c])
        have q0 : ¬ (0 : Int) < (k : Int) := by omega
        clear hst c
        go_wp2_with fail
        have R6 := Row.new wr #[.int .u32 (q.1 : Int), .int .i64 (q.2 : Int)] 79
        have B6 := below_alloc (Below.refl _ wr) (.cells #[.int .u32 (q.1 : Int), .int .i64 (q.2 : Int)] 79)
        obtain ⟨g6, hg6⟩ : ∃ g, g = wr.heap.size := ⟨_, rfl⟩
        rw [← hg6] at R6 ⊢
        generalize wr.alloc (.cells #[.int .u32 (q.1 : Int), .int .i64 (q.2 : Int)] 79) = wq at *
        have HR6 := Lib.hid R6
        have HBQ := Lib.hid (below_then HBW3.out B6)
        have HXQ := Lib.hid (HRX3.out.below B6)
        have d0 : ∀ n : QW (fun w' => Below wq.heap.size wq w'), n.w.cell? ⟨g6, 0, none⟩ = some (.int .u32 (q.1 : Int)) := fun n => (HR6.out.below n.h).cell 0
        have d1 : ∀ n : QW (fun w' => Below wq.heap.size wq w'), n.w.cell? ⟨g6, 1, none⟩ = some (.int .i64 (q.2 : Int)) := fun n => (HR6.out.below n.h).cell 1
        have l0 : 1 + (Sc.dec q.1).length ≤ 9223372036854775807 := by have := HQL.out; omega
        have l1 : 1 + (Sc.dec q.1).length + 1 ≤ 9223372036854775807 := by have := HQL.out; omega
        have l2 : 1 + (Sc.dec q.1).length + 1 + (Sc.dec q.2).length ≤ 9223372036854775807 := by have := HQL.out; omega
        have l3 : x.size + (1 + (Sc.dec q.1).length + 1 + (Sc.dec q.2).length) ≤ 9223372036854775807 := by have := HQL.out; omega
        have H1 := Lib.hid fun n : QW (fun w' => Below wq.heap.size wq w') => quiet1 (fun _ _ a b => below_then a b) n (HN1.out n.w ((HM.out.below (below_then HBQ.out n.h)).g5.glb))
        have H2 := Lib.hid fun n : QW (fun w' => Below wq.heap.size wq w') => quiet1 (fun _ _ a b => below_then a b) n (HN2.out n.w ((HM.out.below (below_then HBQ.out n.h)).g5.glb))
        clear R6 B6 hg6 c0 c1
        refine region_quietS (fun w' => Below wq.heap.size wq w') (by kernel_rfl) (by kernel_rfl) (below_dr (Below.refl _ _)) (fun hne => ?_)
        repeat (go_big_quiet_step (first | (with_reducible exact H1.out _) | (with_reducible exact H2.out _)))
        refine wpQuiet_nil ?_
        intro _ hw'
        obtain ⟨⟨wy, S⟩, rfl⟩ := hw'
        have HBY := Lib.hid (below_then HBQ.out S)
        have HXY := Lib.hid (HXQ.out.below S)
        clear d0 d1 l0 l1 l2 l3
        go_wp2_with fail
        exact ⟨⟨k + 1, _, HI.out, by simp, rfl, by rw [HST.out, ← List.append_assoc, ← HXX.out]; simp [Sc.part], HBY.out, HXY.out⟩, by have := HI.out; simp [intOf]; omega⟩
    · obtain rfl : k = o.parts.length := by omega
      have i1 : ¬ (o.parts.length : Int) < (o.parts.length : Int) := by omega
      have lx : x.size + 1 ≤ 9223372036854775807 := by omega
      clear hlt hk
      go_wp2
      go_ret
      refine ⟨?_, HBW3.out⟩
      have hxx := HXX.out
      rw [List.take_length, HXQ0.out] at hxx
      have e : x ++ (⟨#[59]⟩ : ByteArray) = ⟨(([115, 112, 108, 105, 116, 32] ++ (x3 ++ [32, 105, 110, 116, 111])) ++ (Sc.partsT o.parts ++ [59])).toArray⟩ := by
        apply ByteArray.ext
        rw [← Array.toList_inj]
        simp [hxx]
      refine (congrArg (fun x => Ending.returned (Value.string x)) e).trans ?_
      all_goals simp
set_option maxHeartbeats 8000000 in
set_option maxRecDepth 100000 in
theorem ltext_7 (o : Sc.Op) (vp vs : Value) (ho : o.can) (hk : o.kind = 7) (w : World) (hN : NsAt .i32 w vs o.starts) (hM : Glb13 w) :
    Calls Tryz.prog 22 #[.agg (opc o vp vs).toArray] w fun e w' => e = .returned (.string ⟨(Sc.text Dy.text o).toArray⟩) ∧ Below w.heap.size w w' := by
  have HM := Lib.hid hM
  have hx : Sc.text Dy.text o = (([99, 97, 108, 101, 110, 100, 97, 114] ++ o.starts.flatMap fun d => 32 :: Dy.text d) ++ [32, 117, 110, 116, 105, 108, 32]) ++ (Dy.text o.fin ++ [59]) := by
    unfold Sc.text
    rw [if_neg (by omega), if_neg (by omega), if_pos hk]
    simp [Sc.word, Sc.words, Sc.link, Sc.links]
  rw [hx]
  have HD := Lib.hid fun d W hW => dayText_any d W hW
  have HDL := Lib.hid dtext_len
  have HST := Lib.hid ho.starts
  have HNS := Lib.hid hN
  obtain ⟨ps, cs, rfl, _⟩ := HNS.out
  clear hM hx hN
  unfold opc
  rw [hk, show ((7 : Nat) : Int) = 7 from rfl]
  go_enter Tryz.func22, Tryz.ntmps22
  go_wp2_with fail
  have HBX := Lib.hid (below_alloc (Below.refl _ w) (.cells #[.int .i64 7, .int .u32 (o.fr : Int), .int .u32 (o.too : Int), .string ⟨o.name.toArray⟩, vp, .slice ps o.starts.length cs, .int .i32 o.fin, .int .i64 (o.pos : Int)] 53))
  have RX := Row.new w #[.int .i64 7, .int .u32 (o.fr : Int), .int .u32 (o.too : Int), .string ⟨o.name.toArray⟩, vp, .slice ps o.starts.length cs, .int .i32 o.fin, .int .i64 (o.pos : Int)] 53
  obtain ⟨gx, hgx⟩ : ∃ g, g = w.heap.size := ⟨_, rfl⟩
  rw [← hgx] at RX ⊢
  generalize w.alloc (.cells #[.int .i64 7, .int .u32 (o.fr : Int), .int .u32 (o.too : Int), .string ⟨o.name.toArray⟩, vp, .slice ps o.starts.length cs, .int .i32 o.fin, .int .i64 (o.pos : Int)] 53) = wa at *
  have HRX := Lib.hid RX
  clear hgx
  go_loopw [7, 133] (fun tv iv wr' => ∃ (k : Nat) (x : ByteArray), k ≤ o.starts.length ∧ iv = .int .i64 (k : Int) ∧ tv = .string x ∧ x.data.toList = [99, 97, 108, 101, 110, 100, 97, 114] ++ (o.starts.take k).flatMap (fun d => 32 :: Dy.text d) ∧ Below w.heap.size w wr' ∧ Row wr' gx #[.int .i64 7, .int .u32 (o.fr : Int), .int .u32 (o.too : Int), .string ⟨o.name.toArray⟩, vp, .slice ps o.starts.length cs, .int .i32 o.fin, .int .i64 (o.pos : Int)] 53) (fun _ iv _ => o.starts.length - (intOf iv).toNat)
  case atStart => exact ⟨0, _, by omega, rfl, rfl, rfl, HBX.out, HRX.out⟩
  case round =>
    obtain ⟨k, x, hk, rfl, rfl, hx, BB, RX3⟩ := hrel
    have HBW3 := Lib.hid BB
    have HRX3 := Lib.hid RX3
    have HXX := Lib.hid hx
    have hxs : x.size ≤ 5000 := by
      rw [size_data, hx, List.length_append]
      have h1 := flat_days (o.starts.take k)
      have h2 : (o.starts.take k).length ≤ o.starts.length := by rw [List.length_take]; omega
      have := HST.out
      simp only [List.length_cons, List.length_nil]
      omega
    clear BB RX3 hx
    by_cases hlt : k < o.starts.length
    · obtain ⟨b, off, rfl, hc⟩ : ∃ b off, ps = some ⟨b, off, none⟩ ∧ ∀ i, i < o.starts.length → w.cell? ⟨b, off + i, none⟩ = some (.int .i32 (o.starts.getD i 0)) := by
        have h := HNS.out
        obtain ⟨p, cap, e, h⟩ := h
        simp only [Value.slice.injEq, true_and] at e
        obtain ⟨rfl, rfl⟩ := e
        rcases h with h | h
        · rw [h] at hlt; simp at hlt
        · exact h
      have ck := cell_then (hc k hlt) HBW3.out
      have i0 : (0 : Int) ≤ (k : Int) := by omega
      have i1 : (k : Int) < (o.starts.length : Int) := by omega
      have e1 : IntKind.i64.wrap ((k : Int) + 1) = (k : Int) + 1 := by have := HST.out; rw [IntKind.wrap_i64]; omega
      have htk : (o.starts.take (k + 1)).flatMap (fun d => 32 :: Dy.text d) = (o.starts.take k).flatMap (fun d => 32 :: Dy.text d) ++ (32 :: Dy.text (o.starts.getD k 0)) := by
        rw [List.take_succ_eq_append_getElem hlt, List.flatMap_append, List.getD_eq_getElem?_getD, List.getElem?_eq_getElem hlt]
        simp
      have HTK := Lib.hid htk
      have HI := Lib.hid hlt
      obtain ⟨d, hd⟩ : ∃ d, d = o.starts.getD k 0 := ⟨_, rfl⟩
      rw [← hd] at ck HTK
      have hdl := HDL.out d
      clear hc htk hlt hk hd
      go_wp2_with fail
      refine (HD.out d wr ((HM.out.below HBW3.out).g5)).mono ?_
      rintro _ wz ⟨rfl, hbz⟩
      have HRz := Lib.hid (HRX3.out.below hbz)
      have HBz := Lib.hid (below_then HBW3.out hbz)
      obtain ⟨y, hy⟩ : ∃ y, y = Dy.text d := ⟨_, rfl⟩
      rw [← hy] at HTK hdl ⊢
      have l0 : 1 + y.length ≤ 9223372036854775807 := by omega
      have l1 : x.size + (1 + y.length) ≤ 9223372036854775807 := by omega
      clear hbz ck hy
      go_wp2_with fail
      exact ⟨⟨k + 1, _, HI.out, by simp, rfl, by rw [HTK.out, ← List.append_assoc, ← HXX.out]; simp, HBz.out, HRz.out⟩, by have := HI.out; simp [intOf]; omega⟩
    · obtain rfl : k = o.starts.length := by omega
      have i1 : ¬ (o.starts.length : Int) < (o.starts.length : Int) := by omega
      have c6 : wr.cell? ⟨gx, 6, none⟩ = some (.int .i32 o.fin) := HRX3.out.cell 6
      have l0 : x.size + 7 ≤ 9223372036854775807 := by omega
      clear hlt hk
      go_wp2_with fail
      refine (HD.out o.fin wr ((HM.out.below HBW3.out).g5)).mono ?_
      rintro _ wz ⟨rfl, hbz⟩
      have HBz := Lib.hid (below_then HBW3.out hbz)
      have hdl := HDL.out o.fin
      obtain ⟨y, hy⟩ : ∃ y, y = Dy.text o.fin := ⟨_, rfl⟩
      rw [← hy] at hdl ⊢
      have HY := Lib.hid hy
      have l1 : x.size + 7 + y.length ≤ 9223372036854775807 := by omega
      have l2 : x.size + 7 + y.length + 1 ≤ 9223372036854775807 := by omega
      clear hbz c6 hy
      go_wp2
      go_ret
      refine ⟨?_, HBz.out⟩
      have hxx := HXX.out
      rw [List.take_length] at hxx
      have e : x ++ (⟨#[32, 117, 110, 116, 105, 108, 32]⟩ : ByteArray) ++ ⟨y.toArray⟩ ++ ⟨#[59]⟩ = ⟨((([99, 97, 108, 101, 110, 100, 97, 114] ++ o.starts.flatMap fun d => 32 :: Dy.text d) ++ [32, 117, 110, 116, 105, 108, 32]) ++ (Dy.text o.fin ++ [59])).toArray⟩ := by
        apply ByteArray.ext
        rw [← Array.toList_inj, ← HY.out]
        simp [hxx]
      refine (congrArg (fun x => Ending.returned (Value.string x)) e).trans ?_
      all_goals simp
/-- law 13's Text of any op -/
theorem ltext_any (o : Sc.Op) (vp vs : Value) (ho : o.can) (w : World) (hP : PtsAt w vp o.parts) (hN : NsAt .i32 w vs o.starts) (hM : Glb13 w) :
    Calls Tryz.prog 22 #[.agg (opc o vp vs).toArray] w fun e w' => e = .returned (.string ⟨(Sc.text Dy.text o).toArray⟩) ∧ Below w.heap.size w w' := by
  have h : o.kind = 0 ∨ o.kind = 1 ∨ o.kind = 2 ∨ o.kind = 3 ∨ o.kind = 4 ∨ o.kind = 5 ∨ o.kind = 6 ∨ o.kind = 7 := by have := ho.kind; omega
  rcases h with h | h | h | h | h | h | h | h
  · exact ltext_0 o vp vs ho h w hM
  · exact ltext_1 o vp vs ho h w hM
  · exact ltext_2 o vp vs ho h w hM
  · exact ltext_3 o vp vs ho h w hM
  · exact ltext_4 o vp vs ho h w hP hM
  · exact ltext_5 o vp vs ho h w hM
  · exact ltext_6 o vp vs ho h w hM
  · exact ltext_7 o vp vs ho h w hN hM
end Go.Proofs.YtbnhodpbamijkaaGreatDoor

namespace Go.Proofs.YtbnhodpbamijkaaGreatDoor
open Go.RowKit
set_option linter.unusedVariables false
set_option linter.unusedSimpArgs false

namespace Sc
/-- the k-th period's first day -/
def dayAt (first : Int) (long : List Int) : Nat → Int
  | 0 => first
  | k + 1 => dayAt first long k + (1 + long.getD k 0 % 40)
def mkStarts (first : Int) (long : List Int) (k : Nat) : List Int := (List.range (k + 1)).map (dayAt first long)
theorem mkStarts_succ (first : Int) (long : List Int) (k : Nat) : mkStarts first long (k + 1) = mkStarts first long k ++ [dayAt first long (k + 1)] := by
  unfold mkStarts
  rw [List.range_succ, List.map_append]
  rfl
theorem dayAt_bd (first : Int) (long : List Int) (h : -32768 ≤ first ∧ first ≤ 32767) : ∀ k, first + k ≤ dayAt first long k ∧ dayAt first long k ≤ first + 40 * k
  | 0 => by simp [dayAt]
  | k + 1 => by
    have := dayAt_bd first long h k
    unfold dayAt
    omega
end Sc
theorem append_day2 (W : World) (B : Nat) (ty : TypeId) (v : Value) (n : Nat) (xs : List Int) (hown : W.ownsRow B 29 1 v n (nv .i32 xs)) (g : Nat) (z : Int) (RG : Row W g #[.int .i32 z] 29) (hn : n ≤ 100000) (hB : B ≤ W.heap.size) :
    ∃ v' w', (Builtin.append_ #[49, 49] ty #[v, .slice (some ⟨g, 0, none⟩) 1 1]).run Tryz.prog W = .ok v' w' ∧ w'.ownsRow B 29 1 v' (n + 1) (nv .i32 (xs ++ [z])) ∧ Below B W w' ∧ ∀ b cs t, Row W b cs t → t ≠ 29 → Row w' b cs t := by
  have hi0 : (Tryz.prog.info? 29).map (fun i => (i.zero, i.size, i.bytes)) = some (some (.int .i32 0), 1, 4) := by kernel_rfl
  obtain ⟨i, hi, h⟩ := Option.map_eq_some_iff.1 hi0
  simp only [Prod.mk.injEq] at h
  obtain ⟨h1, h2, h3⟩ := h
  obtain ⟨v', w', hr, k2, k3, k4, k5⟩ := run_append_own_at (P := Tryz.prog) W B 49 ty 29 i (.int .i32 0) 1 4 Tryz.underlying49 hi h1 h2 h3 rfl (by omega) v n (nv .i32 xs) hown ⟨g, 0, none⟩ 1 1 [.int .i32 z] rfl (fun j u hj => by
    rw [addr_add, Nat.zero_add, RG.cell j]
    simpa using hj) (fun u hu => by simp at hu; subst hu; rfl) (by unfold maxLen; omega) (by omega) hB
  refine ⟨v', w', hr, by unfold nv at k2 ⊢; rwa [List.map_append], (Below.refl B W).grown k3 hB (fun k hk => (ownW_lt hown hk).1), fun b cs t R ht => (k3.block b R.lt ?_).trans R⟩
  intro e
  obtain ⟨cs2, h⟩ := own_cells hown e.symm
  have h2 := h.symm.trans R
  simp at h2
  exact ht h2.2.symm
set_option maxHeartbeats 8000000 in
set_option maxRecDepth 100000 in
theorem make8_any (first : Int) (vl : Value) (long : List Int) (hf : -32768 ≤ first ∧ first ≤ 32767) (hb : ∀ n ∈ long, 0 ≤ n ∧ n ≤ 255) (hlen : long.length ≤ 9223372036854775807) (w : World) (hN : NsAt .u8 w vl long) :
    Calls Tryz.prog 38 #[.int .i16 first, vl] w fun e w' => ∃ v, e = .returned (.agg #[v, .int .i32 (Sc.dayAt first long (min long.length 12) + 31)]) ∧ w'.ownsRow w.heap.size 29 1 v (min long.length 12 + 1) (nv .i32 (Sc.mkStarts first long (min long.length 12))) ∧ Below w.heap.size w w' := by
  obtain ⟨pl, cl, rfl, hc⟩ := hN
  have HC := Lib.hid hc
  have HF := Lib.hid (And.intro hf hlen)
  have HBY := Lib.hid hb
  have e0 : IntKind.i32.wrap first = first := by rw [IntKind.wrap_i32]; omega
  clear hc hf hb hlen
  go_enter Tryz.func38, Tryz.ntmps38
  go_wp2_with fail
  have R0 := Row.new w #[.slice none 0 0, .int .i32 0] 51
  have B0 := below_alloc (Below.refl _ w) (.cells #[.slice none 0 0, .int .i32 0] 51)
  have hz1 : (w.alloc (.cells #[.slice none 0 0, .int .i32 0] 51)).heap.size = w.heap.size + 1 := by simp
  generalize w.alloc (.cells #[.slice none 0 0, .int .i32 0] 51) = wa at *
  have R1 := Row.new' wa #[.int .i32 first] 29 hz1.symm
  have B1 := below_alloc B0 (.cells #[.int .i32 first] 29)
  have R01 := R0.alloc (.cells #[.int .i32 first] 29)
  have hz2 : (wa.alloc (.cells #[.int .i32 first] 29)).heap.size = w.heap.size + 1 + 1 := by simp [hz1]
  generalize wa.alloc (.cells #[.int .i32 first] 29) = wb at *
  have R2 := Row.new' wb #[.slice (some ⟨w.heap.size + 1, 0, none⟩) 1 1, .int .i32 0] 51 hz2.symm
  have B2 := below_alloc B1 (.cells #[.slice (some ⟨w.heap.size + 1, 0, none⟩) 1 1, .int .i32 0] 51)
  have R02 := R01.alloc (.cells #[.slice (some ⟨w.heap.size + 1, 0, none⟩) 1 1, .int .i32 0] 51)
  have R12 := R1.alloc (.cells #[.slice (some ⟨w.heap.size + 1, 0, none⟩) 1 1, .int .i32 0] 51)
  generalize wb.alloc (.cells #[.slice (some ⟨w.heap.size + 1, 0, none⟩) 1 1, .int .i32 0] 51) = wc at *
  obtain ⟨gr, hgr⟩ : ∃ g, g = w.heap.size := ⟨_, rfl⟩
  obtain ⟨gc, hgc⟩ : ∃ g, g = w.heap.size + 1 + 1 := ⟨_, rfl⟩
  have HG := Lib.hid (And.intro hgr hgc)
  rw [← hgr] at R02
  rw [← hgc] at R2
  rw [← hgc, ← hgr]
  have hown : wc.ownsRow w.heap.size 29 1 (.slice (some ⟨w.heap.size + 1, 0, none⟩) 1 1) (0 + 1) (nv .i32 (Sc.mkStarts first long 0)) := ⟨rfl, .inr ⟨_, 1, _, rfl, by omega, R12, Nat.le_refl _, by unfold maxLen; omega, rfl, rfl⟩⟩
  have HOWN := Lib.hid hown
  have HRC := Lib.hid R2
  have HRR := Lib.hid R02
  have HBB := Lib.hid B2
  clear R0 B0 hz1 R1 B1 R01 hz2 R2 B2 R02 R12 hgr hgc hown
  go_loopw [5, 16] (fun dv iv wr => ∃ (k : Nat) (v : Value), k ≤ min long.length 12 ∧ iv = .int .i64 (k : Int) ∧ dv = .int .i32 (Sc.dayAt first long k) ∧ wr.ownsRow w.heap.size 29 1 v (k + 1) (nv .i32 (Sc.mkStarts first long k)) ∧ Row wr gc #[v, .int .i32 0] 51 ∧ Row wr gr #[.slice none 0 0, .int .i32 0] 51 ∧ Below w.heap.size w wr) (fun _ iv _ => long.length - (intOf iv).toNat)
  case atStart => exact ⟨0, _, by omega, rfl, rfl, HOWN.out, HRC.out, HRR.out, HBB.out⟩
  case round =>
    obtain ⟨k, v, hk, rfl, rfl, hown, RC, RR, BB⟩ := hrel
    have HOW2 := Lib.hid hown
    have HRC2 := Lib.hid RC
    have HRR2 := Lib.hid RR
    have HB2 := Lib.hid BB
    have hd := Sc.dayAt_bd first long HF.out.1 k
    have hf := HF.out.1
    have c0 : wr.cell? ⟨gc, 0, none⟩ = some v := RC.cell 0
    clear hown RC RR BB
    have fin : k = min long.length 12 → ∀ u, u = Sc.dayAt first long k → True := fun _ _ _ => trivial
    by_cases hlt : k < long.length
    · have i0 : (0 : Int) ≤ (k : Int) := by omega
      have i1 : (k : Int) < (long.length : Int) := by omega
      obtain ⟨b, off, rfl, hcc⟩ : ∃ b off, pl = some ⟨b, off, none⟩ ∧ ∀ i, i < long.length → w.cell? ⟨b, off + i, none⟩ = some (.int .u8 (long.getD i 0)) := by
        rcases HC.out with h | h
        · rw [h] at hlt; simp at hlt
        · exact h
      have ck := cell_then (hcc k hlt) HB2.out
      have hn := HBY.out (long.getD k 0) (getD_mem hlt)
      by_cases h12 : k < 12
      · have hq : ((k : Int) == 12) = false := beq_eq_false_iff_ne.2 (by omega)
        have hst : Sc.dayAt first long (k + 1) = Sc.dayAt first long k + (1 + long.getD k 0 % 40) := rfl
        have HST := Lib.hid hst
        have hms := Sc.mkStarts_succ first long k
        rw [hst] at hms
        have HMS := Lib.hid hms
        obtain ⟨n, hnn⟩ : ∃ n, n = long.getD k 0 := ⟨_, rfl⟩
        rw [← hnn] at ck hn HST HMS
        obtain ⟨d, hdd⟩ : ∃ d, d = Sc.dayAt first long k := ⟨_, rfl⟩
        rw [← hdd] at hd HST HMS ⊢
        have hmd : 0 ≤ n % 40 ∧ n % 40 < 40 := by omega
        have m0 : n.tmod 40 = n % 40 := Int.tmod_eq_emod_of_nonneg hn.1
        have HI := Lib.hid (And.intro hlt h12)
        clear hcc hst hms hnn hdd fin
        generalize n % 40 = m at *
        have e1 : IntKind.u8.wrap m = m := by rw [IntKind.wrap_u8]; omega
        have e2 : IntKind.i32.wrap m = m := by rw [IntKind.wrap_i32]; omega
        have e3 : IntKind.i32.wrap (1 + m) = 1 + m := by rw [IntKind.wrap_i32]; omega
        have e4 : IntKind.i32.wrap (d + (1 + m)) = d + (1 + m) := by rw [IntKind.wrap_i32]; omega
        have e5 : IntKind.i64.wrap ((k : Int) + 1) = (k : Int) + 1 := by rw [IntKind.wrap_i64]; omega
        obtain ⟨v6, w6, hr6, ho6, hb6, hk6⟩ := append_day2 (wr.alloc (.cells #[.int .i32 (d + (1 + m))] 29)) w.heap.size 49 v (k + 1) (Sc.mkStarts first long k) (own_alloc HOW2.out _) wr.heap.size (d + (1 + m)) (Row.new wr _ _) (by omega) (by have := HB2.out.size; simp; omega)
        obtain ⟨p6, c6, rfl⟩ := own_slice ho6
        have RC6 := hk6 gc _ _ (HRC2.out.alloc _) (by show ¬ (51 : Nat) = 29; omega)
        have RR6 := hk6 gr _ _ (HRR2.out.alloc _) (by show ¬ (51 : Nat) = 29; omega)
        have f0 : w6.cell? ⟨gc, 0, none⟩ = some v := RC6.cell 0
        have z0 : w6.frozen? ⟨gc, 0, none⟩ = false := RC6.frozen 0
        have hne : gr ≠ gc := by have := HG.out; omega
        have HRC7 : Hid (Row (w6.setCell ⟨gc, 0, none⟩ (.slice p6 (k + 1 + 1) c6)) gc #[.slice p6 (k + 1 + 1) c6, .int .i32 0] 51) := Lib.hid (RC6.set 0 (.slice p6 (k + 1 + 1) c6))
        have HRR7 : Hid (Row (w6.setCell ⟨gc, 0, none⟩ (.slice p6 (k + 1 + 1) c6)) gr #[.slice none 0 0, .int .i32 0] 51) := Lib.hid (RR6.other ⟨gc, 0, none⟩ hne (.slice p6 (k + 1 + 1) c6))
        have hnc : (Value.slice p6 (k + 1 + 1) c6).ownBlock ≠ some gc := fun e => by
          obtain ⟨cs2, h⟩ := own_cells ho6 e
          have h2 := h.symm.trans RC6
          simp at h2
        have HO7 := Lib.hid (ownW_stored ho6 (stored_setCell w6 gc 0 (.slice p6 (k + 1 + 1) c6)) hnc)
        have HB7 := Lib.hid ((stored_setCell w6 gc 0 (.slice p6 (k + 1 + 1) c6)).below ((below_alloc HB2.out (.cells #[.int .i32 (d + (1 + m))] 29)).trans hb6) (show w.heap.size ≤ gc by have := HG.out; omega))
        have HR6 := Lib.hid hr6
        clear hr6 ho6 hb6 hk6 RC6 RR6 hne hnc hmd hlt hk hd hf
        go_wp2_with (first | (at_builtin; refine ev_run rfl (run_app_op _ _ _ _ rfl rfl rfl HR6.out) ?_))
        refine ⟨⟨k + 1, .slice p6 (k + 1 + 1) c6, by have := HI.out; omega, by simp, by rw [HST.out], by rw [HMS.out]; exact HO7.out, HRC7.out, HRR7.out, HB7.out⟩, by have := HI.out; simp [intOf]; omega⟩
      · have h12e : k = 12 := by omega
        have hq : ((k : Int) == 12) = true := by rw [h12e]; rfl
        have hkm : k = min long.length 12 := by omega
        obtain ⟨pv, cv, rfl⟩ := own_slice HOW2.out
        have hN := (NsAt.of_own HOW2.out).1
        rw [hkm] at hN hd
        have HN := Lib.hid hN
        have e6 : IntKind.i32.wrap (Sc.dayAt first long k + 31) = Sc.dayAt first long k + 31 := by rw [IntKind.wrap_i32, hkm]; omega
        have f1 : wr.cell? ⟨gc, 1, none⟩ = some (.int .i32 0) := HRC2.out.cell 1
        have z1 : wr.frozen? ⟨gc, 1, none⟩ = false := HRC2.out.frozen 1
        have hne : gr ≠ gc := by have := HG.out; omega
        have RS : Row (wr.setCell ⟨gc, 1, none⟩ (.int .i32 (Sc.dayAt first long k + 31))) gc #[.slice pv (k + 1) cv, .int .i32 (Sc.dayAt first long k + 31)] 51 := HRC2.out.set 1 _
        have RRS := HRR2.out.other ⟨gc, 1, none⟩ hne (.int .i32 (Sc.dayAt first long k + 31))
        have HBS := Lib.hid ((stored_setCell wr gc 1 (.int .i32 (Sc.dayAt first long k + 31))).below HB2.out (show w.heap.size ≤ gc by have := HG.out; omega))
        have HNS := Lib.hid (ownW_stored HOW2.out (stored_setCell wr gc 1 (.int .i32 (Sc.dayAt first long k + 31))) (fun e => by
          obtain ⟨cs2, h⟩ := own_cells HOW2.out e
          have h2 := h.symm.trans HRC2.out
          simp at h2))
        have HRS := Lib.hid RRS
        have HKM := Lib.hid hkm
        have t1 : (Tryz.prog.info? 51).map (·.size) = some (#[Value.slice pv (k + 1) cv, .int .i32 (Sc.dayAt first long k + 31)]).size := by kernel_rfl
        have t2 : (#[Value.slice pv (k + 1) cv, .int .i32 (Sc.dayAt first long k + 31)]).all (·.oneCell') = true := by kernel_rfl
        clear hN hd hf hkm hne RRS hlt hk h12 h12e hn hcc fin
        go_wp2_with (first
          | (refine ev_load rfl rfl 51 (Operand.tmp 6) rfl gc rfl RS _ Tryz.underlying51 rfl (by kernel_rfl) ?_)
          | (refine ev_store rfl 51 (Operand.tmp 4) (Operand.tmp 39) rfl gr #[.slice pv (k + 1) cv, .int .i32 (Sc.dayAt first long k + 31)] rfl rfl HRS.out t1 rfl t2 rfl ?_; intro w9 RZ S9))
        have hgr2 : gr ≠ gc := by have := HG.out; omega
        have hno : (Value.slice pv (k + 1) cv).ownBlock ≠ some gr := fun e => by
          obtain ⟨cs2, h⟩ := own_cells HNS.out e
          have h2 := h.symm.trans HRS.out
          simp at h2
        refine bodyPost_ret (v := .agg #[.slice pv (k + 1) cv, .int .i32 (Sc.dayAt first long k + 31)]) (res_row rfl _ _ RZ rfl Tryz.underlying51 rfl (by kernel_rfl)) rfl ⟨.slice pv (k + 1) cv, ?_, ?_, S9.below HBS.out (by have := HG.out; omega)⟩
        · rw [HKM.out]
        · have h9 := ownW_stored HNS.out S9 hno
          rw [HKM.out] at h9 ⊢
          exact h9
    · have i1 : ¬ (k : Int) < (long.length : Int) := by omega
      have hkm : k = min long.length 12 := by omega
      obtain ⟨pv, cv, rfl⟩ := own_slice HOW2.out
      have hN := (NsAt.of_own HOW2.out).1
      rw [hkm] at hN hd
      have HN := Lib.hid hN
      have e6 : IntKind.i32.wrap (Sc.dayAt first long k + 31) = Sc.dayAt first long k + 31 := by rw [IntKind.wrap_i32, hkm]; omega
      have f1 : wr.cell? ⟨gc, 1, none⟩ = some (.int .i32 0) := HRC2.out.cell 1
      have z1 : wr.frozen? ⟨gc, 1, none⟩ = false := HRC2.out.frozen 1
      have hne : gr ≠ gc := by have := HG.out; omega
      have RS : Row (wr.setCell ⟨gc, 1, none⟩ (.int .i32 (Sc.dayAt first long k + 31))) gc #[.slice pv (k + 1) cv, .int .i32 (Sc.dayAt first long k + 31)] 51 := HRC2.out.set 1 _
      have RRS := HRR2.out.other ⟨gc, 1, none⟩ hne (.int .i32 (Sc.dayAt first long k + 31))
      have HBS := Lib.hid ((stored_setCell wr gc 1 (.int .i32 (Sc.dayAt first long k + 31))).below HB2.out (show w.heap.size ≤ gc by have := HG.out; omega))
      have HNS := Lib.hid (ownW_stored HOW2.out (stored_setCell wr gc 1 (.int .i32 (Sc.dayAt first long k + 31))) (fun e => by
        obtain ⟨cs2, h⟩ := own_cells HOW2.out e
        have h2 := h.symm.trans HRC2.out
        simp at h2))
      have HRS := Lib.hid RRS
      have HKM := Lib.hid hkm
      have t1 : (Tryz.prog.info? 51).map (·.size) = some (#[Value.slice pv (k + 1) cv, .int .i32 (Sc.dayAt first long k + 31)]).size := by kernel_rfl
      have t2 : (#[Value.slice pv (k + 1) cv, .int .i32 (Sc.dayAt first long k + 31)]).all (·.oneCell') = true := by kernel_rfl
      clear hN hd hf hkm hne RRS hlt hk fin
      go_wp2_with (first
        | (refine ev_load rfl rfl 51 (Operand.tmp 6) rfl gc rfl RS _ Tryz.underlying51 rfl (by kernel_rfl) ?_)
        | (refine ev_store rfl 51 (Operand.tmp 4) (Operand.tmp 39) rfl gr #[.slice pv (k + 1) cv, .int .i32 (Sc.dayAt first long k + 31)] rfl rfl HRS.out t1 rfl t2 rfl ?_; intro w9 RZ S9))
      have hgr2 : gr ≠ gc := by have := HG.out; omega
      have hno : (Value.slice pv (k + 1) cv).ownBlock ≠ some gr := fun e => by
        obtain ⟨cs2, h⟩ := own_cells HNS.out e
        have h2 := h.symm.trans HRS.out
        simp at h2
      refine bodyPost_ret (v := .agg #[.slice pv (k + 1) cv, .int .i32 (Sc.dayAt first long k + 31)]) (res_row rfl _ _ RZ rfl Tryz.underlying51 rfl (by kernel_rfl)) rfl ⟨.slice pv (k + 1) cv, ?_, ?_, S9.below HBS.out (by have := HG.out; omega)⟩
      · rw [HKM.out]
      · have h9 := ownW_stored HNS.out S9 hno
        rw [HKM.out] at h9 ⊢
        exact h9
end Go.Proofs.YtbnhodpbamijkaaGreatDoor
