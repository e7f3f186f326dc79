/-
  Own texts, several in one (Scr2, Scr3, Scr4).
-/
import Derived.Test.YtbhjkddjgikaiaaGreatDoorMrg25
namespace Go.Proofs.YtbhjkddjgikaiaaGreatDoor
open Go.RowKit
set_option linter.unusedVariables false
set_option linter.unusedSimpArgs false

def ptv (p : Nat × Nat) : List Value := [.int .u32 (p.1 : Int), .int .i64 (p.2 : Int)]
/-- a row of parts -/
def PtsAt (w : World) (v : Value) (l : List (Nat × Nat)) : Prop := ∃ p cap, v = .slice p l.length cap ∧ ElsAt ptv 2 (0, 0) w p l
theorem PtsAt.below {w w' : World} {v : Value} {l : List (Nat × Nat)} (h : PtsAt w v l) (hb : Below w.heap.size w w') : PtsAt w' v l := by
  obtain ⟨p, cap, e, h⟩ := h
  exact ⟨p, cap, e, h.below hb⟩
def opc (o : Sc.Op) (vp vs : Value) : List Value := [.int .i64 (o.kind : Int), .int .u32 (o.fr : Int), .int .u32 (o.too : Int), .string ⟨o.name.toArray⟩, vp, vs, .int .i32 o.fin, .int .i64 (o.pos : Int)]
/-- an op that Text may be asked of -/
structure Sc.Op.can (o : Sc.Op) : Prop where
  kind : o.kind < 8
  fr : o.fr ≤ 4294967295
  too : o.too ≤ 4294967295
  name : o.name.length ≤ 1000
  parts : (o.kind = 4 → 0 < o.parts.length) ∧ o.parts.length ≤ 100 ∧ ∀ p ∈ o.parts, p.1 ≤ 4294967295 ∧ p.2 ≤ 4294967295
  starts : o.starts.length ≤ 100
  pos : o.pos ≤ 1000000
theorem info_str : ∃ i, Tryz.prog.info? 9 = some i ∧ i.zero = some (.string ByteArray.empty) ∧ i.size = 1 ∧ i.bytes = 16 := by
  have h : (Tryz.prog.info? 9).map (fun i => (i.zero, i.size, i.bytes)) = some (some (.string ByteArray.empty), 1, 16) := by kernel_rfl
  obtain ⟨i, hi, h⟩ := Option.map_eq_some_iff.1 h
  simp only [Prod.mk.injEq] at h
  exact ⟨i, hi, h.1, h.2.1, h.2.2⟩
theorem sv_one (l : List (List UInt8)) : ∀ u ∈ sv l, u.oneCell' = true := by
  intro u hu
  obtain ⟨x, _, rfl⟩ := List.mem_map.1 hu
  rfl
/-- strings behind a row of one's own -/
theorem append_str (W : World) (B : Nat) (ty : TypeId) (v : Value) (xs ys : List (List UInt8)) (hown : W.ownsRow B 9 1 v xs.length (sv xs)) (g : Nat) (RG : Row W g (sv ys).toArray 9) (hn : xs.length ≤ 1000 ∧ ys.length ≤ 1000) (hB : B ≤ W.heap.size) :
    ∃ v' w', (Builtin.append_ #[25, 25] ty #[v, .slice (some ⟨g, 0, none⟩) ys.length ys.length]).run Tryz.prog W = .ok v' w' ∧ w'.ownsRow B 9 1 v' (xs ++ ys).length (sv (xs ++ ys)) ∧ Below B W w' := by
  obtain ⟨i, hi, h1, h2, h3⟩ := info_str
  obtain ⟨v', w', hr, k2, k3, k4, k5⟩ := run_append_own_at (P := Tryz.prog) W B 25 ty 9 i (.string ByteArray.empty) 1 16 Tryz.underlying25 hi h1 h2 h3 rfl (by omega) v xs.length (sv xs) hown ⟨g, 0, none⟩ ys.length ys.length (sv ys) (by simp [sv]) (fun j u hj => by
    rw [addr_add, Nat.zero_add, RG.cell j]
    simpa using hj) (sv_one ys) (by unfold maxLen; omega) (by omega) hB
  refine ⟨v', w', hr, by rw [sv_app, List.length_append]; exact k2, (Below.refl B W).grown k3 hB ?_⟩
  intro k hk
  exact (ownW_lt hown hk).1
theorem dayText_any (n : Int) (w : World) (hM : Glb5 w) : Calls Tryz.prog 63 #[.int .i32 n] w fun e w' => e = .returned (.string ⟨(Dy.text n).toArray⟩) ∧ Below w.heap.size w w' := by
  by_cases h : Dy.inY n
  · obtain ⟨y, a, b, c, d⟩ := Dy.year_ex n h
    rw [Dy.text_year n y ⟨a, b⟩ c d]
    exact dtext_any n y ⟨a, b⟩ c d w hM
  · have h' : n < -719162 ∨ 2932897 ≤ n := by unfold Dy.inY at h; omega
    have e : Dy.text n = [] := by
      unfold Dy.text
      rw [dif_neg]
      rintro ⟨y, a, b, c, d⟩
      have h1 := ahead_bd y ⟨a, by omega⟩
      have h2 := ahead_bd (y + 1) ⟨by omega, by omega⟩
      omega
    rw [e]
    exact (dtext_out n h' w).mono fun e w' ⟨a, b⟩ => ⟨a, b ▸ Below.refl _ _⟩
theorem word_len (k : Nat) (h : k < 8) : (Sc.word k).length ≤ 8 :=
  (show ∀ k < 8, (Sc.word k).length ≤ 8 by decide) k h
theorem link_len (k : Nat) (h : k < 8) : (Sc.link k).length ≤ 8 :=
  (show ∀ k < 8, (Sc.link k).length ≤ 8 by decide) k h
theorem join_sp (x : List UInt8) (l : List (List UInt8)) : Lib.join (x :: l) [32] = x ++ l.flatMap fun y => 32 :: y := by
  rw [Lib.join_cons]
  unfold Lib.joinTail
  rw [List.flatMap_def]
  rfl
theorem join_parts (p : Nat × Nat) (r : List (Nat × Nat)) : 32 :: Lib.join ((p :: r).map fun q => Sc.dec q.1 ++ (32 :: Sc.dec q.2)) [44, 32] = Sc.partsT (p :: r) := by
  show _ = Sc.part p ++ r.flatMap fun q => 44 :: Sc.part q
  rw [List.map_cons, Lib.join_cons]
  unfold Lib.joinTail Sc.part
  rw [List.map_map, List.flatMap_def]
  rfl
theorem str_app59 (z : List UInt8) : (⟨(z ++ [59]).toArray⟩ : ByteArray) = ⟨z.toArray⟩ ++ ⟨#[59]⟩ := by
  apply ByteArray.ext
  simp
theorem row_own {w : World} {B g n : Nat} {xs : List (List UInt8)} (R : Row w g (sv xs).toArray 9) (hB : B ≤ g) (hn : n = xs.length) (hx : xs.length ≤ 1000) : w.ownsRow B 9 1 (.slice (some ⟨g, 0, none⟩) n n) n (sv xs) := by
  subst hn
  have hl : (sv xs).length = xs.length := by simp [sv]
  exact ⟨by omega, .inr ⟨g, xs.length, (sv xs).toArray, rfl, hB, R, Nat.le_refl _, by unfold maxLen; omega, by simp [hl], by simp only; rw [List.take_of_length_le (by omega)]⟩⟩
set_option maxHeartbeats 4000000 in
set_option maxRecDepth 100000 in
theorem text_two (o : Sc.Op) (vp vs : Value) (ho : o.can) (h1 : o.kind ≠ 1) (h4 : o.kind ≠ 4) (h7 : o.kind ≠ 7) (w : World) (hM : Glb13 w) :
    Calls Tryz.prog 73 #[.agg (opc o vp vs).toArray] w fun e w' => e = .returned (.string ⟨(Sc.text Dy.text o).toArray⟩) ∧ Below w.heap.size w w' := by
  have HM := Lib.hid hM
  have hk := ho.kind
  have q1 : ((o.kind : Int) == 1) = false := beq_eq_false_iff_ne.2 (by omega)
  have q4 : ((o.kind : Int) == 4) = false := beq_eq_false_iff_ne.2 (by omega)
  have q7 : ((o.kind : Int) == 7) = false := beq_eq_false_iff_ne.2 (by omega)
  have hx : Sc.text Dy.text o = Lib.join [Sc.word o.kind, Sc.dec o.fr, Sc.link o.kind, Sc.dec o.too] [32] ++ [59] := by
    unfold Sc.text
    rw [if_neg h1, if_neg h4, if_neg h7, join_sp]
    simp
  rw [hx]
  have HW := Lib.hid fun W hW => word_any o.kind hk W hW
  have HL := Lib.hid fun W hW => link_any o.kind hk W hW
  have HF := Lib.hid fun W hW => snumber_any o.fr ho.fr W hW
  have HT := Lib.hid fun W hW => snumber_any o.too ho.too W hW
  have hlen : (Lib.join [Sc.word o.kind, Sc.dec o.fr, Sc.link o.kind, Sc.dec o.too] [32]).length ≤ 1000 := by
    have a1 : (Sc.word o.kind).length ≤ 8 := word_len _ hk
    have a2 : (Sc.link o.kind).length ≤ 8 := link_len _ hk
    have b1 : (Sc.dec o.fr).length ≤ 20 := dec_len _ (by have := ho.fr; omega)
    have b2 : (Sc.dec o.too).length ≤ 20 := dec_len _ (by have := ho.too; omega)
    rw [join_sp]
    simp
    omega
  have HLEN := Lib.hid hlen
  clear hM hk h1 h4 h7 hx hlen
  unfold opc
  generalize Sc.word o.kind = x1 at *
  generalize Sc.link o.kind = x2 at *
  generalize Sc.dec o.fr = x3 at *
  generalize Sc.dec o.too = x4 at *
  go_enter Tryz.func73, Tryz.ntmps73
  go_wp2_with fail
  have HBX := Lib.hid (below_alloc (Below.refl _ w) (.cells #[.int .i64 (o.kind : Int), .int .u32 (o.fr : Int), .int .u32 (o.too : Int), .string ⟨o.name.toArray⟩, vp, vs, .int .i32 o.fin, .int .i64 (o.pos : Int)] 48))
  have RX := Row.new w #[.int .i64 (o.kind : Int), .int .u32 (o.fr : Int), .int .u32 (o.too : Int), .string ⟨o.name.toArray⟩, vp, vs, .int .i32 o.fin, .int .i64 (o.pos : Int)] 48
  refine (HW.out _ (HM.out.below HBX.out)).mono ?_
  rintro _ w1 ⟨rfl, rfl⟩
  obtain ⟨gx, hgx⟩ : ∃ g, g = w.heap.size := ⟨_, rfl⟩
  have HGX := Lib.hid (show w.heap.size ≤ gx by omega)
  rw [← hgx] at RX ⊢
  generalize w.alloc (.cells #[.int .i64 (o.kind : Int), .int .u32 (o.fr : Int), .int .u32 (o.too : Int), .string ⟨o.name.toArray⟩, vp, vs, .int .i32 o.fin, .int .i64 (o.pos : Int)] 48) = wa at *
  have c0 : wa.cell? ⟨gx, 0, none⟩ = some (.int .i64 (o.kind : Int)) := RX.cell 0
  have RB := Row.new wa (sv [x1]).toArray 9
  have hBB := below_alloc (Below.refl _ wa) (.cells (sv [x1]).toArray 9)
  change Row (wa.alloc (.cells #[.string ⟨x1.toArray⟩] 9)) wa.heap.size _ _ at RB
  change Below wa.heap.size wa (wa.alloc (.cells #[.string ⟨x1.toArray⟩] 9)) at hBB
  have HRX := Lib.hid (RX.below hBB)
  have HBW := Lib.hid (below_then HBX.out hBB)
  have c1 : (wa.alloc (.cells #[.string ⟨x1.toArray⟩] 9)).cell? ⟨gx, 0, none⟩ = some (.int .i64 (o.kind : Int)) := HRX.out.cell 0
  have HOWN := Lib.hid (row_own (n := 1) RB (show w.heap.size ≤ wa.heap.size from HBX.out.size) rfl (by simp))
  clear hgx RX RB hBB
  go_wp2_with fail
  clear c0 c1
  obtain ⟨gs, hgs⟩ : ∃ g, g = wa.heap.size := ⟨_, rfl⟩
  rw [← hgs] at HOWN ⊢
  generalize wa.alloc (.cells #[.string ⟨x1.toArray⟩] 9) = wr at *
  clear hgs HBX
  refine region_tail (n := 13) 10 11 12 6 (by kernel_rfl) (fun w' => Below wr.heap.size wr w') (fun w' v => ∃ g, wr.heap.size ≤ g ∧ v = .slice (some ⟨g, 0, none⟩) 3 3 ∧ Row w' g (sv [x3, x2, x4]).toArray 9) (fun w' v => w'.ownsRow w.heap.size 9 1 v 4 (sv [x1, x3, x2, x4]) ∧ Below w.heap.size w w')
    (fun i => (#[.slice (some ⟨gs, 0, none⟩) 1 1, .pointer (some ⟨gx, 1, none⟩), .int .u32 (o.fr : Int), .string ⟨x3.toArray⟩, .pointer (some ⟨gx, 0, none⟩), .int .i64 (o.kind : Int), .string ⟨x2.toArray⟩, .pointer (some ⟨gx, 2, none⟩), .int .u32 (o.too : Int), .string ⟨x4.toArray⟩] : Array Value).getD i undef) (by kernel_rfl) (by kernel_rfl) (by kernel_rfl) (below_dr (Below.refl _ _)) rfl (fun _ _ a b => below_then a b) (fun w1 w2 v hb ⟨g, h1, h2, h3⟩ => ⟨g, h1, h2, h3.below hb⟩) ?_
  intro F Fz hF hFz
  simp only [fill, tailV, dstAt] at hF hFz
  simp [Act.put] at hF hFz
  obtain rfl : F = fun vb va => _ := funext fun vb => funext fun va => (hF vb va).symm
  obtain rfl : Fz = fun vb va => _ := funext fun vb => funext fun va => (hFz vb va).symm
  clear hF hFz
  refine ⟨?_, ?_, ?_, ?_, ?_⟩
  · intro i op ho n1 n2 n3 vb va wx S
    have RX := HRX.out.below S
    have HS := Lib.hid S
    have d0 : wx.cell? ⟨gx, 0, none⟩ = some (.int .i64 (o.kind : Int)) := RX.cell 0
    have d1 : wx.cell? ⟨gx, 1, none⟩ = some (.int .u32 (o.fr : Int)) := RX.cell 1
    have d2 : wx.cell? ⟨gx, 2, none⟩ = some (.int .u32 (o.too : Int)) := RX.cell 2
    rcases i with _ | _ | _ | _ | _ | _ | _ | _ | _ | _ | _ | _ | _ | i
    all_goals (first | (exact absurd rfl n1) | (exact absurd rfl n2) | (exact absurd rfl n3) | (simp at ho; done) | (obtain rfl := Option.some.inj ho))
    · exact yv_val rfl (Below.refl _ _) (by go_simp)
    · exact yv_val rfl (Below.refl _ _) (by go_simp)
    · exact yv_val rfl (Below.refl _ _) (by go_simp)
    · exact yv_call rfl rfl Tryz.func112 (by kernel_rfl) rfl #[.int .u32 (o.fr : Int)] (by go_simp) (HF.out wx ((HM.out.below (below_then HBW.out HS.out)).g5.glb))
    · exact yv_val rfl (Below.refl _ _) (by go_simp)
    · exact yv_val rfl (Below.refl _ _) (by go_simp)
    · exact yv_call rfl rfl Tryz.func98 (by kernel_rfl) rfl #[.int .i64 (o.kind : Int)] (by go_simp) ((HL.out wx (HM.out.below (below_then HBW.out HS.out))).mono fun e w' ⟨a, b⟩ => ⟨a, b ▸ Below.refl _ _⟩)
    · exact yv_val rfl (Below.refl _ _) (by go_simp)
    · exact yv_val rfl (Below.refl _ _) (by go_simp)
    · exact yv_call rfl rfl Tryz.func112 (by kernel_rfl) rfl #[.int .u32 (o.too : Int)] (by go_simp) (HT.out wx ((HM.out.below (below_then HBW.out HS.out)).g5.glb))
  · intro op ho vb va wx S
    obtain rfl := Option.some.inj ho
    exact ⟨rfl, _, wx.alloc (.cells (sv [x3, x2, x4]).toArray 9), by go_simp; rfl, below_alloc (Below.refl _ wx) _, wx.heap.size, S.size, rfl, Row.new wx _ _⟩
  · intro op ho vb va wx S ⟨g, hg, hv, RG⟩
    obtain rfl := Option.some.inj ho
    subst hv
    obtain ⟨v', w', hr, ho', hb'⟩ := append_str wx w.heap.size 25 (.slice (some ⟨gs, 0, none⟩) 1 1) [x1] [x3, x2, x4] (ownW_below HOWN.out S) g RG (by simp) (Nat.le_trans HBW.out.size S.size)
    exact ⟨rfl, v', w', run_app_op _ _ _ _ rfl rfl rfl hr, ho', (below_then HBW.out S).trans hb'⟩
  · intro op ho vb va wx
    obtain rfl := Option.some.inj ho
    exact ⟨rfl, _, _, by go_simp, rfl, rfl⟩
  · intro vb va wx ⟨hown, hb⟩
    have HJ := Lib.hid (join_own w.heap.size 4 va [x1, x3, x2, x4] [32] wx hown (by simp) (by have := HLEN.out; omega))
    have HBX := Lib.hid hb
    clear hown hb
    go_wp2_with fail
    refine HJ.out.mono ?_
    rintro _ wz ⟨rfl, hb⟩
    have HBZ := Lib.hid (below_then HBX.out hb)
    have hzl := HLEN.out
    obtain ⟨z, hz⟩ : ∃ z, z = Lib.join [x1, x3, x2, x4] [32] := ⟨_, rfl⟩
    rw [← hz] at hzl ⊢
    have HZ := Lib.hid hz
    clear hb hz
    go_wp2
    go_ret
    refine ⟨?_, HBZ.out⟩
    show Ending.returned (.string (⟨z.toArray⟩ ++ ⟨#[59]⟩)) = _
    rw [HZ.out, str_app59]
end Go.Proofs.YtbhjkddjgikaiaaGreatDoor

namespace Go.Proofs.YtbhjkddjgikaiaaGreatDoor
open Go.RowKit
set_option linter.unusedVariables false
set_option linter.unusedSimpArgs false

theorem str_quote (z : List UInt8) : (⟨#[34]⟩ : ByteArray) ++ ⟨z.toArray⟩ ++ ⟨#[34]⟩ = ⟨(34 :: (z ++ [34])).toArray⟩ := by
  apply ByteArray.ext
  simp
set_option maxHeartbeats 4000000 in
set_option maxRecDepth 100000 in
theorem text_name (o : Sc.Op) (vp vs : Value) (ho : o.can) (hk : o.kind = 1) (w : World) (hM : Glb13 w) :
    Calls Tryz.prog 73 #[.agg (opc o vp vs).toArray] w fun e w' => e = .returned (.string ⟨(Sc.text Dy.text o).toArray⟩) ∧ Below w.heap.size w w' := by
  have HM := Lib.hid hM
  have hx : Sc.text Dy.text o = Lib.join [Sc.word 1, Sc.dec o.fr, 34 :: (o.name ++ [34])] [32] ++ [59] := by
    unfold Sc.text
    rw [if_pos hk, join_sp]
    simp
  rw [hx]
  have HW := Lib.hid fun W hW => word_any 1 (by omega) W hW
  rw [show ((1 : Nat) : Int) = 1 from rfl] at HW
  have HF := Lib.hid fun W hW => snumber_any o.fr ho.fr W hW
  have hnl := ho.name
  have hlen : (Lib.join [Sc.word 1, Sc.dec o.fr, 34 :: (o.name ++ [34])] [32]).length ≤ 2000 := by
    have a1 : (Sc.word 1).length ≤ 8 := word_len _ (by omega)
    have b1 : (Sc.dec o.fr).length ≤ 20 := dec_len _ (by have := ho.fr; omega)
    rw [join_sp]
    simp
    omega
  have HLEN := Lib.hid hlen
  have HQ := Lib.hid (str_quote o.name)
  clear hM hx hlen
  generalize Sc.word 1 = x1 at *
  generalize Sc.dec o.fr = x3 at *
  unfold opc
  rw [hk, show ((1 : Nat) : Int) = 1 from rfl]
  go_enter Tryz.func73, Tryz.ntmps73
  go_wp2_with fail
  have HBX := Lib.hid (below_alloc (Below.refl _ w) (.cells #[.int .i64 1, .int .u32 (o.fr : Int), .int .u32 (o.too : Int), .string ⟨o.name.toArray⟩, vp, vs, .int .i32 o.fin, .int .i64 (o.pos : Int)] 48))
  have RX := Row.new w #[.int .i64 1, .int .u32 (o.fr : Int), .int .u32 (o.too : Int), .string ⟨o.name.toArray⟩, vp, vs, .int .i32 o.fin, .int .i64 (o.pos : Int)] 48
  refine (HW.out _ (HM.out.below HBX.out)).mono ?_
  rintro _ w1 ⟨rfl, rfl⟩
  obtain ⟨gx, hgx⟩ : ∃ g, g = w.heap.size := ⟨_, rfl⟩
  have HGX := Lib.hid (show w.heap.size ≤ gx by omega)
  rw [← hgx] at RX ⊢
  generalize w.alloc (.cells #[.int .i64 1, .int .u32 (o.fr : Int), .int .u32 (o.too : Int), .string ⟨o.name.toArray⟩, vp, vs, .int .i32 o.fin, .int .i64 (o.pos : Int)] 48) = wa at *
  have c0 : wa.cell? ⟨gx, 0, none⟩ = some (.int .i64 1) := RX.cell 0
  have RB := Row.new wa (sv [x1]).toArray 9
  have hBB := below_alloc (Below.refl _ wa) (.cells (sv [x1]).toArray 9)
  change Row (wa.alloc (.cells #[.string ⟨x1.toArray⟩] 9)) wa.heap.size _ _ at RB
  change Below wa.heap.size wa (wa.alloc (.cells #[.string ⟨x1.toArray⟩] 9)) at hBB
  have HRX := Lib.hid (RX.below hBB)
  have HBW := Lib.hid (below_then HBX.out hBB)
  have HOWN := Lib.hid (row_own (n := 1) RB (show w.heap.size ≤ wa.heap.size from HBX.out.size) rfl (by simp))
  have c1 : (wa.alloc (.cells #[.string ⟨x1.toArray⟩] 9)).cell? ⟨gx, 0, none⟩ = some (.int .i64 1) := HRX.out.cell 0
  clear hgx RX RB hBB
  go_wp2_with fail
  clear c0 c1
  obtain ⟨gs, hgs⟩ : ∃ g, g = wa.heap.size := ⟨_, rfl⟩
  rw [← hgs] at HOWN ⊢
  generalize wa.alloc (.cells #[.string ⟨x1.toArray⟩] 9) = wr at *
  clear hgs HBX
  refine region_tail (n := 11) 8 9 10 6 (by kernel_rfl) (fun w' => Below wr.heap.size wr w') (fun w' v => ∃ g, wr.heap.size ≤ g ∧ v = .slice (some ⟨g, 0, none⟩) 2 2 ∧ Row w' g (sv [x3, 34 :: (o.name ++ [34])]).toArray 9) (fun w' v => w'.ownsRow w.heap.size 9 1 v ([x1, x3, 34 :: (o.name ++ [34])]).length (sv ([x1, x3, 34 :: (o.name ++ [34])])) ∧ Below w.heap.size w w')
    (fun i => (#[.slice (some ⟨gs, 0, none⟩) 1 1, .pointer (some ⟨gx, 1, none⟩), .int .u32 (o.fr : Int), .string ⟨x3.toArray⟩, .pointer (some ⟨gx, 3, none⟩), .string ⟨o.name.toArray⟩, .string (⟨#[34]⟩ ++ ⟨o.name.toArray⟩), .string (⟨#[34]⟩ ++ ⟨o.name.toArray⟩ ++ ⟨#[34]⟩)] : Array Value).getD i undef) (by kernel_rfl) (by kernel_rfl) (by kernel_rfl) (below_dr (Below.refl _ _)) rfl (fun _ _ a b => below_then a b) (fun w1 w2 v hb ⟨g, h1, h2, h3⟩ => ⟨g, h1, h2, h3.below hb⟩) ?_
  intro F Fz hF hFz
  simp only [fill, tailV, dstAt] at hF hFz
  simp [Act.put] at hF hFz
  obtain rfl : F = fun vb va => _ := funext fun vb => funext fun va => (hF vb va).symm
  obtain rfl : Fz = fun vb va => _ := funext fun vb => funext fun va => (hFz vb va).symm
  clear hF hFz
  refine ⟨?_, ?_, ?_, ?_, ?_⟩
  · intro i op ho n1 n2 n3 vb va wx S
    have HS := Lib.hid S
    have RX := HRX.out.below S
    have d1 : wx.cell? ⟨gx, 1, none⟩ = some (.int .u32 (o.fr : Int)) := RX.cell 1
    have d3 : wx.cell? ⟨gx, 3, none⟩ = some (.string ⟨o.name.toArray⟩) := RX.cell 3
    have l1 : 1 + o.name.length ≤ 9223372036854775807 := by omega
    have l2 : 1 + o.name.length + 1 ≤ 9223372036854775807 := by omega
    rcases i with _ | _ | _ | _ | _ | _ | _ | _ | _ | _ | _ | i
    all_goals (first | (exact absurd rfl n1) | (exact absurd rfl n2) | (exact absurd rfl n3) | (simp at ho; done) | (obtain rfl := Option.some.inj ho))
    · exact yv_val rfl (Below.refl _ _) (by go_simp)
    · exact yv_val rfl (Below.refl _ _) (by go_simp)
    · exact yv_val rfl (Below.refl _ _) (by go_simp)
    · exact yv_call rfl rfl Tryz.func112 (by kernel_rfl) rfl #[.int .u32 (o.fr : Int)] (by go_simp) (HF.out wx ((HM.out.below (below_then HBW.out HS.out)).g5.glb))
    · exact yv_val rfl (Below.refl _ _) (by go_simp)
    · exact yv_val rfl (Below.refl _ _) (by go_simp)
    · exact yv_val rfl (Below.refl _ _) (by go_simp)
    · exact yv_val rfl (Below.refl _ _) (by go_simp)
  · intro op ho vb va wx S
    obtain rfl := Option.some.inj ho
    exact ⟨rfl, _, wx.alloc (.cells (sv [x3, 34 :: (o.name ++ [34])]).toArray 9), by go_simp; rw [HQ.out]; rfl, below_alloc (Below.refl _ wx) _, wx.heap.size, S.size, rfl, Row.new wx _ _⟩
  · intro op ho vb va wx S ⟨g, hg, hv, RG⟩
    obtain rfl := Option.some.inj ho
    subst hv
    obtain ⟨v', w', hr, ho', hb'⟩ := append_str wx w.heap.size 25 (.slice (some ⟨gs, 0, none⟩) 1 1) [x1] [x3, 34 :: (o.name ++ [34])] (ownW_below HOWN.out S) g RG (by simp) (Nat.le_trans HBW.out.size S.size)
    exact ⟨rfl, v', w', run_app_op _ _ _ _ rfl rfl rfl hr, ho', (below_then HBW.out S).trans hb'⟩
  · intro op ho vb va wx
    obtain rfl := Option.some.inj ho
    exact ⟨rfl, _, _, by go_simp, rfl, rfl⟩
  · intro vb va wx ⟨hown, hb⟩
    have HJ := Lib.hid (join_own w.heap.size _ va ([x1, x3, 34 :: (o.name ++ [34])]) [32] wx hown (by simp) (by have := HLEN.out; omega))
    have HBX := Lib.hid hb
    clear hown hb
    go_wp2_with fail
    refine HJ.out.mono ?_
    rintro _ wz ⟨rfl, hb⟩
    have HBZ := Lib.hid (below_then HBX.out hb)
    have hzl := HLEN.out
    obtain ⟨z, hz⟩ : ∃ z, z = Lib.join ([x1, x3, 34 :: (o.name ++ [34])]) [32] := ⟨_, rfl⟩
    rw [← hz] at hzl ⊢
    have HZ := Lib.hid hz
    clear hb hz
    go_wp2
    go_ret
    refine ⟨?_, HBZ.out⟩
    show Ending.returned (.string (⟨z.toArray⟩ ++ ⟨#[59]⟩)) = _
    rw [HZ.out, str_app59]
    all_goals rfl
end Go.Proofs.YtbhjkddjgikaiaaGreatDoor

namespace Go.Proofs.YtbhjkddjgikaiaaGreatDoor
open Go.RowKit
set_option linter.unusedVariables false
set_option linter.unusedSimpArgs false

theorem dtext_len (n : Int) : (Dy.text n).length ≤ 10 := by
  by_cases h : Dy.inY n
  · obtain ⟨y, a, b, c, d⟩ := Dy.year_ex n h
    rw [Dy.text_year n y ⟨a, b⟩ c d]
    obtain ⟨a', b', c', e, _, _, _, ha, hb, hc⟩ := Dy.txt_nat n y ⟨a, b⟩ c d
    have la := Dy.pad_len a' 4 (Dy.dec_len4 a' ha)
    have lb := Dy.pad_len b' 2 (Dy.dec_len2 b' hb)
    have lc := Dy.pad_len c' 2 (Dy.dec_len2 c' hc)
    rw [e]
    simp
    omega
  · unfold Dy.text
    rw [dif_neg]
    · simp
    · rintro ⟨y, a, b, c, d⟩
      have h1 := ahead_bd y ⟨a, by omega⟩
      have h2 := ahead_bd (y + 1) ⟨by omega, by omega⟩
      unfold Dy.inY at h
      omega
theorem flat_days : ∀ (l : List Int), (l.flatMap fun d => 32 :: Dy.text d).length ≤ 11 * l.length
  | [] => by simp
  | d :: l => by
    have h1 := dtext_len d
    have h2 := flat_days l
    rw [List.flatMap_cons, List.length_append, List.length_cons, List.length_cons]
    omega
/-- as append_str; and what is no row of strings stays -/
theorem append_str2 (W : World) (B : Nat) (ty : TypeId) (v : Value) (xs ys : List (List UInt8)) (hown : W.ownsRow B 9 1 v xs.length (sv xs)) (g : Nat) (RG : Row W g (sv ys).toArray 9) (hn : xs.length ≤ 1000 ∧ ys.length ≤ 1000) (hB : B ≤ W.heap.size) :
    ∃ v' w', (Builtin.append_ #[25, 25] ty #[v, .slice (some ⟨g, 0, none⟩) ys.length ys.length]).run Tryz.prog W = .ok v' w' ∧ w'.ownsRow B 9 1 v' (xs ++ ys).length (sv (xs ++ ys)) ∧ Below B W w' ∧ ∀ b cs t, Row W b cs t → t ≠ 9 → Row w' b cs t := by
  obtain ⟨i, hi, h1, h2, h3⟩ := info_str
  obtain ⟨v', w', hr, k2, k3, k4, k5⟩ := run_append_own_at (P := Tryz.prog) W B 25 ty 9 i (.string ByteArray.empty) 1 16 Tryz.underlying25 hi h1 h2 h3 rfl (by omega) v xs.length (sv xs) hown ⟨g, 0, none⟩ ys.length ys.length (sv ys) (by simp [sv]) (fun j u hj => by
    rw [addr_add, Nat.zero_add, RG.cell j]
    simpa using hj) (sv_one ys) (by unfold maxLen; omega) (by omega) hB
  refine ⟨v', w', hr, by rw [sv_app, List.length_append]; exact k2, (Below.refl B W).grown k3 hB ?_, fun b cs t R ht => ?_⟩
  · intro k hk
    exact (ownW_lt hown hk).1
  · refine (k3.block b R.lt ?_).trans R
    intro e
    obtain ⟨cs2, h⟩ := own_cells hown e.symm
    have h2 := h.symm.trans R
    simp at h2
    exact ht h2.2.symm
set_option maxHeartbeats 8000000 in
set_option maxRecDepth 100000 in
theorem text_cal (o : Sc.Op) (vp vs : Value) (ho : o.can) (hk : o.kind = 7) (w : World) (hN : NsAt .i32 w vs o.starts) (hM : Glb13 w) :
    Calls Tryz.prog 73 #[.agg (opc o vp vs).toArray] w fun e w' => e = .returned (.string ⟨(Sc.text Dy.text o).toArray⟩) ∧ Below w.heap.size w w' := by
  have HM := Lib.hid hM
  have hx : Sc.text Dy.text o = Lib.join ((Sc.word 7 :: o.starts.map Dy.text) ++ [Sc.link 7, Dy.text o.fin]) [32] ++ [59] := by
    unfold Sc.text
    rw [if_neg (by omega), if_neg (by omega), if_pos hk, List.cons_append, join_sp, List.flatMap_append, List.flatMap_map]
    simp
  rw [hx]
  have HW := Lib.hid fun W hW => word_any 7 (by omega) W hW
  have HL := Lib.hid fun W hW => link_any 7 (by omega) W hW
  rw [show ((7 : Nat) : Int) = 7 from rfl] at HW HL
  have HD := Lib.hid fun d W hW => dayText_any d W hW
  have hlen : (Lib.join ((Sc.word 7 :: o.starts.map Dy.text) ++ [Sc.link 7, Dy.text o.fin]) [32]).length ≤ 20000 := by
    have a1 : (Sc.word 7).length ≤ 8 := word_len _ (by omega)
    have a2 : (Sc.link 7).length ≤ 8 := link_len _ (by omega)
    have a3 := dtext_len o.fin
    have a4 := flat_days o.starts
    have a5 := ho.starts
    rw [List.cons_append, join_sp, List.flatMap_append, List.flatMap_map]
    simp only [List.length_append, List.flatMap_cons, List.flatMap_nil, List.length_cons, List.append_nil]
    omega
  have HLEN := Lib.hid hlen
  have HST := Lib.hid ho.starts
  have HNS := Lib.hid hN
  clear hM hx hlen hN
  generalize Sc.word 7 = x1 at *
  generalize Sc.link 7 = x2 at *
  obtain ⟨x5, hx5⟩ : ∃ x, x = Dy.text o.fin := ⟨_, rfl⟩
  rw [← hx5] at HLEN ⊢
  have HX5 := Lib.hid hx5
  have HD5 : Hid (∀ W, Glb5 W → Calls Tryz.prog 63 #[.int .i32 o.fin] W fun e w' => e = .returned (.string ⟨x5.toArray⟩) ∧ Below W.heap.size W w') := Lib.hid fun W hW => by rw [hx5]; exact HD.out o.fin W hW
  clear hx5
  obtain ⟨ps, cs, rfl, hcells⟩ := HNS.out
  have HNC := Lib.hid hcells
  clear hcells
  unfold opc
  rw [hk, show ((7 : Nat) : Int) = 7 from rfl]
  go_enter Tryz.func73, Tryz.ntmps73
  go_wp2_with fail
  have HBX := Lib.hid (below_alloc (Below.refl _ w) (.cells #[.int .i64 7, .int .u32 (o.fr : Int), .int .u32 (o.too : Int), .string ⟨o.name.toArray⟩, vp, .slice ps o.starts.length cs, .int .i32 o.fin, .int .i64 (o.pos : Int)] 48))
  have RX := Row.new w #[.int .i64 7, .int .u32 (o.fr : Int), .int .u32 (o.too : Int), .string ⟨o.name.toArray⟩, vp, .slice ps o.starts.length cs, .int .i32 o.fin, .int .i64 (o.pos : Int)] 48
  refine (HW.out _ (HM.out.below HBX.out)).mono ?_
  rintro _ w1 ⟨rfl, rfl⟩
  obtain ⟨gx, hgx⟩ : ∃ g, g = w.heap.size := ⟨_, rfl⟩
  have HGX := Lib.hid (show w.heap.size ≤ gx by omega)
  rw [← hgx] at RX ⊢
  generalize w.alloc (.cells #[.int .i64 7, .int .u32 (o.fr : Int), .int .u32 (o.too : Int), .string ⟨o.name.toArray⟩, vp, .slice ps o.starts.length cs, .int .i32 o.fin, .int .i64 (o.pos : Int)] 48) = wa at *
  have c0 : wa.cell? ⟨gx, 0, none⟩ = some (.int .i64 7) := RX.cell 0
  have RB := Row.new wa (sv [x1]).toArray 9
  have hBB := below_alloc (Below.refl _ wa) (.cells (sv [x1]).toArray 9)
  change Row (wa.alloc (.cells #[.string ⟨x1.toArray⟩] 9)) wa.heap.size _ _ at RB
  change Below wa.heap.size wa (wa.alloc (.cells #[.string ⟨x1.toArray⟩] 9)) at hBB
  have HRX := Lib.hid (RX.below hBB)
  have HBW := Lib.hid (below_then HBX.out hBB)
  have HOWN := Lib.hid (row_own (n := 1) RB (show w.heap.size ≤ wa.heap.size from HBX.out.size) rfl (by simp))
  have c1 : (wa.alloc (.cells #[.string ⟨x1.toArray⟩] 9)).cell? ⟨gx, 0, none⟩ = some (.int .i64 7) := HRX.out.cell 0
  have c5 : (wa.alloc (.cells #[.string ⟨x1.toArray⟩] 9)).cell? ⟨gx, 5, none⟩ = some (.slice ps o.starts.length cs) := HRX.out.cell 5
  clear hgx RX RB hBB
  go_wp2_with fail
  clear c0 c1 c5
  obtain ⟨gs, hgs⟩ : ∃ g, g = wa.heap.size := ⟨_, rfl⟩
  rw [← hgs] at HOWN ⊢
  generalize wa.alloc (.cells #[.string ⟨x1.toArray⟩] 9) = wr at *
  clear hgs HBX
  go_loopw [3, 77] (fun ov iv wr' => ∃ k : Nat, k ≤ o.starts.length ∧ iv = .int .i64 (k : Int) ∧ wr'.ownsRow w.heap.size 9 1 ov (x1 :: (o.starts.take k).map Dy.text).length (sv (x1 :: (o.starts.take k).map Dy.text)) ∧ Below w.heap.size w wr' ∧ Row wr' gx #[.int .i64 7, .int .u32 (o.fr : Int), .int .u32 (o.too : Int), .string ⟨o.name.toArray⟩, vp, .slice ps o.starts.length cs, .int .i32 o.fin, .int .i64 (o.pos : Int)] 48) (fun _ iv _ => o.starts.length - (intOf iv).toNat)
  case atStart => exact ⟨0, by omega, rfl, HOWN.out, HBW.out, HRX.out⟩
  case round =>
    obtain ⟨k, hk, rfl, hown, BB, RX3⟩ := hrel
    have HBW3 := Lib.hid BB
    have HRX3 := Lib.hid RX3
    have HOW3 := Lib.hid hown
    clear BB RX3 hown
    by_cases hlt : k < o.starts.length
    · obtain ⟨b, off, rfl, hc⟩ : ∃ b off, ps = some ⟨b, off, none⟩ ∧ ∀ i, i < o.starts.length → w.cell? ⟨b, off + i, none⟩ = some (.int .i32 (o.starts.getD i 0)) := by
        have h := HNS.out
        obtain ⟨p, cap, e, h⟩ := h
        simp only [Value.slice.injEq, true_and] at e
        obtain ⟨rfl, rfl⟩ := e
        rcases h with h | h
        · rw [h] at hlt; simp at hlt
        · exact h
      have ck := cell_then (hc k hlt) HBW3.out
      have i0 : (0 : Int) ≤ (k : Int) := by omega
      have i1 : (k : Int) < (o.starts.length : Int) := by omega
      have e1 : IntKind.i64.wrap ((k : Int) + 1) = (k : Int) + 1 := by have := HST.out; rw [IntKind.wrap_i64]; omega
      have htk : (o.starts.take (k + 1)).map Dy.text = (o.starts.take k).map Dy.text ++ [Dy.text (o.starts.getD k 0)] := by
        rw [List.take_succ_eq_append_getElem hlt, List.map_append, List.getD_eq_getElem?_getD, List.getElem?_eq_getElem hlt]
        rfl
      have HTK := Lib.hid htk
      have HI := Lib.hid hlt
      obtain ⟨d, hd⟩ : ∃ d, d = o.starts.getD k 0 := ⟨_, rfl⟩
      rw [← hd] at ck HTK
      obtain ⟨ws, hws⟩ : ∃ z, z = wr := ⟨_, rfl⟩
      clear hc htk hlt hk hd hws
      go_wp2_with fail
      refine (HD.out d wr ((HM.out.below HBW3.out).g5)).mono ?_
      rintro _ wz ⟨rfl, hbz⟩
      have hoz := ownW_below HOW3.out hbz
      have hRz := HRX3.out.below hbz
      have hBz := below_then HBW3.out hbz
      obtain ⟨v6, w6, hr6, ho6, hb6, hk6⟩ := append_str2 (wz.alloc (.cells #[.string ⟨(Dy.text d).toArray⟩] 9)) w.heap.size 25 u3 (x1 :: (o.starts.take k).map Dy.text) [Dy.text d] (own_alloc hoz _) wz.heap.size (Row.new wz _ _) (by have := HST.out; simp; omega) (by have := hBz.size; simp; omega)
      have HR6 := Lib.hid hr6
      have HO6 := Lib.hid ho6
      have HB6 := Lib.hid ((below_alloc hBz (.cells #[.string ⟨(Dy.text d).toArray⟩] 9)).trans hb6)
      have HK6 := Lib.hid (hk6 gx _ _ (hRz.alloc _) (by show ¬ (48 : Nat) = 9; omega))
      clear hr6 ho6 hb6 hk6 hbz hoz hRz hBz ck
      go_wp2_with (first | (at_builtin; refine ev_run rfl (run_app_op _ _ _ _ rfl rfl rfl HR6.out) ?_))
      exact ⟨⟨k + 1, HI.out, by simp, by rw [HTK.out]; exact HO6.out, HB6.out, HK6.out⟩, by have := HI.out; simp [intOf]; omega⟩
    · obtain rfl : k = o.starts.length := by omega
      have i1 : ¬ (o.starts.length : Int) < (o.starts.length : Int) := by omega
      have hHO := HOW3.out
      rw [List.take_length] at hHO
      have HOW2 := Lib.hid hHO
      have HBW2 := HBW3
      have HRX2 := HRX3
      clear hHO hlt hk
      have c0 : wr.cell? ⟨gx, 0, none⟩ = some (.int .i64 7) := HRX2.out.cell 0
      obtain ⟨ov, hov⟩ : ∃ v, v = u3 := ⟨_, rfl⟩
      rw [← hov] at HOW2 ⊢
      clear hov HOW3
      go_wp2_with fail
      clear c0
      refine region_tail (n := 11) 8 9 10 6 (by kernel_rfl) (fun w' => Below wr.heap.size wr w') (fun w' v => ∃ g, wr.heap.size ≤ g ∧ v = .slice (some ⟨g, 0, none⟩) 2 2 ∧ Row w' g (sv [x2, x5]).toArray 9) (fun w' v => w'.ownsRow w.heap.size 9 1 v ((x1 :: o.starts.map Dy.text) ++ [x2, x5]).length (sv ((x1 :: o.starts.map Dy.text) ++ [x2, x5])) ∧ Below w.heap.size w w')
        (fun i => (#[ov, .pointer (some ⟨gx, 0, none⟩), .int .i64 7, .string ⟨x2.toArray⟩, .pointer (some ⟨gx, 5, none⟩), .pointer (some ⟨gx, 6, none⟩), .int .i32 o.fin, .string ⟨x5.toArray⟩] : Array Value).getD i undef) (by kernel_rfl) (by kernel_rfl) (by kernel_rfl) (below_dr (Below.refl _ _)) rfl (fun _ _ a b => below_then a b) (fun w1 w2 v hb ⟨g, h1, h2, h3⟩ => ⟨g, h1, h2, h3.below hb⟩) ?_
      intro F Fz hF hFz
      simp only [fill, tailV, dstAt] at hF hFz
      simp [Act.put] at hF hFz
      obtain rfl : F = fun vb va => _ := funext fun vb => funext fun va => (hF vb va).symm
      obtain rfl : Fz = fun vb va => _ := funext fun vb => funext fun va => (hFz vb va).symm
      clear hF hFz
      refine ⟨?_, ?_, ?_, ?_, ?_⟩
      · intro i op ho n1 n2 n3 vb va wx S
        have HS := Lib.hid S
        have RX := HRX2.out.below S
        have d0 : wx.cell? ⟨gx, 0, none⟩ = some (.int .i64 7) := RX.cell 0
        have d6 : wx.cell? ⟨gx, 6, none⟩ = some (.int .i32 o.fin) := RX.cell 6
        rcases i with _ | _ | _ | _ | _ | _ | _ | _ | _ | _ | _ | i
        all_goals (first | (exact absurd rfl n1) | (exact absurd rfl n2) | (exact absurd rfl n3) | (simp at ho; done) | (obtain rfl := Option.some.inj ho))
        · exact yv_val rfl (Below.refl _ _) (by go_simp)
        · exact yv_val rfl (Below.refl _ _) (by go_simp)
        · exact yv_val rfl (Below.refl _ _) (by go_simp)
        · exact yv_call rfl rfl Tryz.func98 (by kernel_rfl) rfl #[.int .i64 7] (by go_simp) ((HL.out wx (HM.out.below (below_then HBW2.out HS.out))).mono fun e w' ⟨a, b⟩ => ⟨a, b ▸ Below.refl _ _⟩)
        · exact yv_val rfl (Below.refl _ _) (by go_simp)
        · exact yv_val rfl (Below.refl _ _) (by go_simp)
        · exact yv_val rfl (Below.refl _ _) (by go_simp)
        · exact yv_call rfl rfl Tryz.func63 (by kernel_rfl) rfl #[.int .i32 o.fin] (by go_simp) (HD5.out wx ((HM.out.below (below_then HBW2.out HS.out)).g5))
      · intro op ho vb va wx S
        obtain rfl := Option.some.inj ho
        exact ⟨rfl, _, wx.alloc (.cells (sv [x2, x5]).toArray 9), by go_simp; rfl, below_alloc (Below.refl _ wx) _, wx.heap.size, S.size, rfl, Row.new wx _ _⟩
      · intro op ho vb va wx S ⟨g, hg, hv, RG⟩
        obtain rfl := Option.some.inj ho
        subst hv
        obtain ⟨v', w', hr, ho', hb'⟩ := append_str wx w.heap.size 25 (ov) (x1 :: o.starts.map Dy.text) [x2, x5] (ownW_below HOW2.out S) g RG (by have := HST.out; simp; omega) (Nat.le_trans HBW2.out.size S.size)
        exact ⟨rfl, v', w', run_app_op _ _ _ _ rfl rfl rfl hr, ho', (below_then HBW2.out S).trans hb'⟩
      · intro op ho vb va wx
        obtain rfl := Option.some.inj ho
        exact ⟨rfl, _, _, by go_simp, rfl, rfl⟩
      · intro vb va wx ⟨hown, hb⟩
        have HJ := Lib.hid (join_own w.heap.size _ va ((x1 :: o.starts.map Dy.text) ++ [x2, x5]) [32] wx hown (by have := HST.out; simp; omega) (by have := HLEN.out; omega))
        have HBX := Lib.hid hb
        clear hown hb
        go_wp2_with fail
        refine HJ.out.mono ?_
        rintro _ wz ⟨rfl, hb⟩
        have HBZ := Lib.hid (below_then HBX.out hb)
        have hzl := HLEN.out
        obtain ⟨z, hz⟩ : ∃ z, z = Lib.join ((x1 :: o.starts.map Dy.text) ++ [x2, x5]) [32] := ⟨_, rfl⟩
        rw [← hz] at hzl ⊢
        have HZ := Lib.hid hz
        clear hb hz
        go_wp2
        go_ret
        refine ⟨?_, HBZ.out⟩
        show Ending.returned (.string (⟨z.toArray⟩ ++ ⟨#[59]⟩)) = _
        rw [HZ.out, str_app59]
        all_goals rfl
end Go.Proofs.YtbhjkddjgikaiaaGreatDoor
