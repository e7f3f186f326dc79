/-
  Own texts, several in one (ReplP, Same13d, Same13e).
-/
import Derived.Test.YtbhjkddjgikaiaaGreatDoorOwnLaw14e
import Derived.Lib.Replace
import Derived.Lib.CountLaws
import Derived.Test.YtbhjkddjgikaiaaGreatDoorMrg29
import Derived.Test.YtbhjkddjgikaiaaGreatDoorMrg30
namespace Go.Proofs.YtbhjkddjgikaiaaGreatDoor
set_option linter.unusedVariables false
set_option linter.unusedSimpArgs false
set_option autoImplicit false
namespace Sc
open Lx
theorem index_sign : ∀ (x m : List UInt8), cl x → Lib.index (x ++ 59 :: 10 :: m) [59, 10] = (x.length : Nat)
  | [], m, _ => by simp [Lib.index]
  | b :: x, m, h => by
    have h1 := index_sign x m (fun c hc => h c (by simp [hc]))
    have hb : b ≠ 59 := (h b (by simp)).1
    rw [List.cons_append, Lib.index, h1]
    have h2 : List.isPrefixOf [59, 10] (b :: (x ++ 59 :: 10 :: m)) = false := by
      simp [List.isPrefixOf, Ne.symm hb]
    rw [h2]
    have h3 : ((x.length : Int) == -1) = false := by
      rw [beq_eq_false_iff_ne]
      omega
    simp [h3]
theorem count_signs : ∀ (l : List (List UInt8)), (∀ x ∈ l, cl x) → Lib.count (l.flatMap fun x => x ++ [59, 10]) [59, 10] = l.length
  | [], _ => by
    rw [List.flatMap_nil, List.length_nil]
    exact Lib.count_miss (by decide)
  | x :: l, h => by
    have h1 := index_sign x (l.flatMap fun x => x ++ [59, 10]) (h x (by simp))
    have e : ((x :: l).flatMap fun x => x ++ [59, 10]) = x ++ 59 :: 10 :: (l.flatMap fun x => x ++ [59, 10]) := by simp
    rw [e, Lib.count_hit (by simp) h1]
    have h2 : (x ++ 59 :: 10 :: (l.flatMap fun x => x ++ [59, 10])).drop (x.length + ([59, 10] : List UInt8).length) = l.flatMap fun x => x ++ [59, 10] := by
      rw [← List.drop_drop, List.drop_left]
      rfl
    rw [h2, count_signs l (fun y hy => h y (by simp [hy])), List.length_cons]
    omega
theorem replace_signs (new : List UInt8) : ∀ (l : List (List UInt8)), (∀ x ∈ l, cl x) → Lib.replaceK [59, 10] new l.length (l.flatMap fun x => x ++ [59, 10]) = l.flatMap fun x => x ++ new
  | [], _ => rfl
  | x :: l, h => by
    have h1 := index_sign x (l.flatMap fun x => x ++ [59, 10]) (h x (by simp))
    have e : ((x :: l).flatMap fun x => x ++ [59, 10]) = x ++ 59 :: 10 :: (l.flatMap fun x => x ++ [59, 10]) := by simp
    rw [e, List.length_cons, Lib.replaceK_hit _ _ _ _ _ h1]
    have h2 : (x ++ 59 :: 10 :: (l.flatMap fun x => x ++ [59, 10])).drop (x.length + ([59, 10] : List UInt8).length) = l.flatMap fun x => x ++ [59, 10] := by
      rw [← List.drop_drop, List.drop_left]
      rfl
    rw [h2, replace_signs new l (fun y hy => h y (by simp [hy])), List.take_left, List.flatMap_cons]
theorem replaceAll_signs (new : List UInt8) (hne : new ≠ [59, 10]) (l : List (List UInt8)) (h : ∀ x ∈ l, cl x) : Lib.replaceAll (l.flatMap fun x => x ++ [59, 10]) [59, 10] new = l.flatMap fun x => x ++ new := by
  unfold Lib.replaceAll Lib.replace
  rw [if_neg (by simp [Ne.symm hne]), Lib.replaceNum, if_pos (.inl (by omega)), count_signs l h]
  exact replace_signs new l h
/-- the print of ops, each sign with its line feed replaced by a note and line feeds about it -/
theorem replace_print (n : List UInt8) (ops : List Op) (h : ∀ o ∈ ops, cl o.name) : Lib.replaceAll (print Dy.text ops) [59, 10] (32 :: 35 :: (n ++ [10, 59, 10, 10])) = ops.flatMap (textN Dy.text n) := by
  have e1 : print Dy.text ops = (ops.map fun o => word o.kind ++ body Dy.text o).flatMap fun x => x ++ [59, 10] := by
    unfold print
    rw [List.flatMap_map]
    congr 1
    funext o
    rw [text_body]
    simp
  have e2 : ops.flatMap (textN Dy.text n) = (ops.map fun o => word o.kind ++ body Dy.text o).flatMap fun x => x ++ (32 :: 35 :: (n ++ [10, 59, 10, 10])) := by
    rw [List.flatMap_map]
    congr 1
    funext o
    simp [textN]
  rw [e1, e2]
  exact replaceAll_signs _ (by simp) _ (fun x hx => by
    obtain ⟨o, ho, rfl⟩ := List.mem_map.1 hx
    exact cl_body o (h o ho))
end Sc
end Go.Proofs.YtbhjkddjgikaiaaGreatDoor

namespace Go.Proofs.YtbhjkddjgikaiaaGreatDoor
open Go.RowKit
set_option linter.unusedVariables false
set_option linter.unusedSimpArgs false
def sameL : List (Sc.Op × Value × Value) → List (Sc.Op × Value × Value) → Bool
  | [], [] => true
  | a :: l, b :: m => Sc.sameB a.1 b.1 && sameL l m
  | _, _ => false
theorem sameL_iff : ∀ (l m : List (Sc.Op × Value × Value)), sameL l m = true ↔ l.map (fun e => e.1.bare) = m.map (fun e => e.1.bare)
  | [], [] => by simp [sameL]
  | [], b :: m => by simp [sameL]
  | a :: l, [] => by simp [sameL]
  | a :: l, b :: m => by
    have := sameL_iff l m
    have h2 := Sc.sameB_iff a.1 b.1
    simp [sameL, this, h2]
theorem sameL_len : ∀ (l m : List (Sc.Op × Value × Value)), l.length ≠ m.length → sameL l m = false
  | [], [], h => absurd rfl h
  | [], b :: m, _ => rfl
  | a :: l, [], _ => rfl
  | a :: l, b :: m, h => by
    have := sameL_len l m (by simpa using h)
    simp [sameL, this]
theorem sameL_drop : ∀ (l m : List (Sc.Op × Value × Value)) (k : Nat), l.length = m.length → k < l.length → sameL (l.drop k) (m.drop k) = (Sc.sameB (l.getD k opE0).1 (m.getD k opE0).1 && sameL (l.drop (k + 1)) (m.drop (k + 1))) := fun l m k h hk => by
  rw [List.drop_eq_getElem_cons hk, List.drop_eq_getElem_cons (show k < m.length by omega), List.getD_eq_getElem?_getD, List.getD_eq_getElem?_getD, List.getElem?_eq_getElem hk, List.getElem?_eq_getElem (show k < m.length by omega)]
  rfl
end Go.Proofs.YtbhjkddjgikaiaaGreatDoor

namespace Go.Proofs.YtbhjkddjgikaiaaGreatDoor
open Go.RowKit
set_option linter.unusedVariables false
set_option linter.unusedSimpArgs false
set_option maxHeartbeats 8000000 in
set_option maxRecDepth 100000 in
theorem equalf_any (p1 p2 : Option Addr) (c1 c2 : Nat) (l m : List (Sc.Op × Value × Value)) (w : World) (h1 : ElsAt opE 8 opE0 w p1 l) (h2 : ElsAt opE 8 opE0 w p2 m) (ho1 : ∀ e ∈ l, okE w e) (ho2 : ∀ e ∈ m, okE w e) (hl : l.length ≤ 1000000) :
    Calls Tryz.prog 58 #[.slice p1 l.length c1, .slice p2 m.length c2, .func (.func 75) #[] #[]] w fun e w' => e = .returned (.bool (sameL l m)) ∧ Below w.heap.size w w' := by
  have H1 := Lib.hid h1
  have H2 := Lib.hid h2
  have HO1 := Lib.hid ho1
  have HO2 := Lib.hid ho2
  have HL := Lib.hid hl
  clear h1 h2 hl ho1 ho2
  by_cases hlm : l.length = m.length
  · have HLM := Lib.hid hlm
    rw [← hlm]
    clear hlm
    go_enter Tryz.func58, Tryz.ntmps58
    go_wp2_with fail
    go_loopw [17] (fun i wr => ∃ k : Nat, k ≤ l.length ∧ i = .int .i64 (k : Int) ∧ sameL l m = sameL (l.drop k) (m.drop k) ∧ Below w.heap.size w wr) (fun i _ => l.length - (intOf i).toNat)
    case atStart => exact ⟨0, by omega, rfl, rfl, Below.refl _ _⟩
    case round =>
    obtain ⟨k, hk, rfl, htk, BB⟩ := hrel
    have HBB := Lib.hid BB
    have HTK := Lib.hid htk
    have hlm := HLM.out
    clear BB htk
    by_cases hlt : k < l.length
    · have hk1 : (0 : Int) ≤ (k : Int) := by omega
      have hk2 : (k : Int) < (l.length : Int) := by omega
      obtain ⟨b1, o1, rfl, g1⟩ : ∃ b off, p1 = some ⟨b, off, none⟩ ∧ ∀ i, i < l.length → w.rangeAt b (off + i * 8) (opE (l.getD i opE0)) := by
        rcases H1.out with h | h
        · exact absurd hlt (by rw [h]; simp)
        · exact h
      obtain ⟨b2, o2, rfl, g2⟩ : ∃ b off, p2 = some ⟨b, off, none⟩ ∧ ∀ i, i < m.length → w.rangeAt b (off + i * 8) (opE (m.getD i opE0)) := by
        rcases H2.out with h | h
        · exact absurd hlt (by rw [hlm, h]; simp)
        · exact h
      have hd := sameL_drop l m k hlm hlt
      have hx := HO1.out _ (getD_mem (d := opE0) hlt)
      have hy := HO2.out _ (getD_mem (d := opE0) (show k < m.length by omega))
      have ckd := range_below (g1 k hlt) HBB.out
      have ckf := range_below (g2 k (by omega)) HBB.out
      generalize l.getD k opE0 = x at *
      generalize m.getD k opE0 = y at *
      obtain ⟨x, v1, u1⟩ := x
      obtain ⟨y, v2, u2⟩ := y
      have d0 : wr.cell? ⟨b1, o1 + k * 8, none⟩ = some (.int .i64 (x.kind : Int)) := ckd 0 _ rfl
      have d1 : wr.cell? ⟨b1, o1 + k * 8 + 1, none⟩ = some (.int .u32 (x.fr : Int)) := ckd 1 _ rfl
      have d2 : wr.cell? ⟨b1, o1 + k * 8 + 2, none⟩ = some (.int .u32 (x.too : Int)) := ckd 2 _ rfl
      have d3 : wr.cell? ⟨b1, o1 + k * 8 + 3, none⟩ = some (.string ⟨x.name.toArray⟩) := ckd 3 _ rfl
      have d4 : wr.cell? ⟨b1, o1 + k * 8 + 4, none⟩ = some (v1) := ckd 4 _ rfl
      have d5 : wr.cell? ⟨b1, o1 + k * 8 + 5, none⟩ = some (u1) := ckd 5 _ rfl
      have d6 : wr.cell? ⟨b1, o1 + k * 8 + 6, none⟩ = some (.int .i32 x.fin) := ckd 6 _ rfl
      have d7 : wr.cell? ⟨b1, o1 + k * 8 + 7, none⟩ = some (.int .i64 (x.pos : Int)) := ckd 7 _ rfl
      have f0 : wr.cell? ⟨b2, o2 + k * 8, none⟩ = some (.int .i64 (y.kind : Int)) := ckf 0 _ rfl
      have f1 : wr.cell? ⟨b2, o2 + k * 8 + 1, none⟩ = some (.int .u32 (y.fr : Int)) := ckf 1 _ rfl
      have f2 : wr.cell? ⟨b2, o2 + k * 8 + 2, none⟩ = some (.int .u32 (y.too : Int)) := ckf 2 _ rfl
      have f3 : wr.cell? ⟨b2, o2 + k * 8 + 3, none⟩ = some (.string ⟨y.name.toArray⟩) := ckf 3 _ rfl
      have f4 : wr.cell? ⟨b2, o2 + k * 8 + 4, none⟩ = some (v2) := ckf 4 _ rfl
      have f5 : wr.cell? ⟨b2, o2 + k * 8 + 5, none⟩ = some (u2) := ckf 5 _ rfl
      have f6 : wr.cell? ⟨b2, o2 + k * 8 + 6, none⟩ = some (.int .i32 y.fin) := ckf 6 _ rfl
      have f7 : wr.cell? ⟨b2, o2 + k * 8 + 7, none⟩ = some (.int .i64 (y.pos : Int)) := ckf 7 _ rfl
      have HD := Lib.hid hd
      have HXY := Lib.hid (And.intro (okE_below hx HBB.out) (okE_below hy HBB.out))
      have HLT := Lib.hid hlt
      have hc : x.parts.length ≤ 1000000 ∧ x.starts.length ≤ 1000000 := ⟨Nat.le_trans hx.1.parts.2.1 (by omega), Nat.le_trans hx.1.starts (by omega)⟩
      have HCC := Lib.hid hc
      have ev : IntKind.i64.wrap ((k : Int) + 1) = ((k + 1 : Nat) : Int) := by have := HL.out; rw [IntKind.wrap_i64]; omega
      clear hd hx hy ckd ckf g1 g2 hc hlm hlt
      obtain ⟨a1, n1, k1, rfl⟩ : ∃ p n c, v1 = .slice p n c := by obtain ⟨p, c, e, _⟩ := HXY.out.1.2.1; exact ⟨_, _, _, e⟩
      obtain ⟨a2, n2, k2, rfl⟩ : ∃ p n c, u1 = .slice p n c := by obtain ⟨p, c, e, _⟩ := HXY.out.1.2.2; exact ⟨_, _, _, e⟩
      obtain ⟨a3, n3, k3, rfl⟩ : ∃ p n c, v2 = .slice p n c := by obtain ⟨p, c, e, _⟩ := HXY.out.2.2.1; exact ⟨_, _, _, e⟩
      obtain ⟨a4, n4, k4, rfl⟩ : ∃ p n c, u2 = .slice p n c := by obtain ⟨p, c, e, _⟩ := HXY.out.2.2.2; exact ⟨_, _, _, e⟩
      have BA1 := below_alloc (Below.refl _ wr) (.cells #[.int .i64 (x.kind : Int), .int .u32 (x.fr : Int), .int .u32 (x.too : Int), .string ⟨x.name.toArray⟩, .slice a1 n1 k1, .slice a2 n2 k2, .int .i32 x.fin, .int .i64 (x.pos : Int)] 48)
      have t0 := cell_then f0 BA1
      have t1 := cell_then f1 BA1
      have t2 := cell_then f2 BA1
      have t3 := cell_then f3 BA1
      have t4 := cell_then f4 BA1
      have t5 := cell_then f5 BA1
      have t6 := cell_then f6 BA1
      have t7 := cell_then f7 BA1
      go_wp2_with fail
      have BA := below_alloc (below_alloc (Below.refl _ wr) (.cells (opc x (.slice a1 n1 k1) (.slice a2 n2 k2)).toArray 48)) (.cells (opc y (.slice a3 n3 k3) (.slice a4 n4 k4)).toArray 48)
      refine (same_any x y _ _ _ _ ((wr.alloc (.cells (opc x (.slice a1 n1 k1) (.slice a2 n2 k2)).toArray 48)).alloc (.cells (opc y (.slice a3 n3 k3) (.slice a4 n4 k4)).toArray 48)) (HXY.out.1.2.1.below BA) (HXY.out.1.2.2.below BA) (HXY.out.2.2.1.below BA) (HXY.out.2.2.2.below BA) HCC.out).mono ?_
      rintro _ w2 ⟨rfl, hb⟩
      have BW := below_then HBB.out (below_then BA hb)
      by_cases hs : Sc.sameB x y = true
      · go_wp2_with fail
        exact ⟨⟨k + 1, by have := HLT.out; omega, rfl, by rw [HTK.out, HD.out]; simp [hs], BW⟩, by have := HLT.out; simp [intOf]; omega⟩
      · have hs : Sc.sameB x y = false := by simpa using hs
        have hf : sameL l m = false := by rw [HTK.out, HD.out]; simp [hs]
        go_wp2_with fail
        go_ret
        exact ⟨congrArg (fun b => Ending.returned (Value.bool b)) hf.symm, BW⟩
    · obtain rfl : k = l.length := by omega
      have ht : sameL l m = true := by rw [HTK.out, List.drop_length, hlm, List.drop_length]; rfl
      have hk0 : ¬ ((l.length : Int) < (l.length : Int)) := by omega
      clear hlm
      go_wp2
      go_ret
      first | exact ⟨rfl, HBB.out⟩ | exact ⟨congrArg (fun b => Ending.returned (Value.bool b)) ht.symm, HBB.out⟩
  · have hf := sameL_len l m hlm
    have j1 : ¬ (l.length : Int) = (m.length : Int) := by omega
    go_enter Tryz.func58, Tryz.ntmps58
    go_wp2_with fail
    go_ret
    exact ⟨congrArg (fun b => Ending.returned (Value.bool b)) hf.symm, Below.refl _ _⟩
end Go.Proofs.YtbhjkddjgikaiaaGreatDoor
