/-
  Own texts, several in one (Awake10, Codec, Awake11).
-/
import Derived.Test.YtbhjkddjgikaiaaGreatDoorMrg18
import Derived.Lib.SmallJoins
namespace Go.Proofs.YtbhjkddjgikaiaaGreatDoor
open Go.RowKit
set_option linter.unusedVariables false
set_option linter.unusedSimpArgs false

set_option maxHeartbeats 1000000 in
theorem fcheck10 (c u b : Nat) (w : World) (hK : Bk w c u b) (hG : Glb5 w) : Calls Tryz.prog 42 #[.agg #[.slice (some ⟨c, 0, none⟩) 1 1, .slice (some ⟨u, 0, none⟩) 1 1, .slice (some ⟨b, 0, none⟩) 1 1, .int .i32 31]] w fun e w' => e = .returned (.int .i64 0) ∧ Below w.heap.size w w' := by
  have RX := Row.new w #[.slice (some ⟨c, 0, none⟩) 1 1, .slice (some ⟨u, 0, none⟩) 1 1, .slice (some ⟨b, 0, none⟩) 1 1, .int .i32 31] 67
  have BW := below_alloc (Below.refl _ w) (.cells #[.slice (some ⟨c, 0, none⟩) 1 1, .slice (some ⟨u, 0, none⟩) 1 1, .slice (some ⟨b, 0, none⟩) 1 1, .int .i32 31] 67)
  have x0 : (w.alloc (.cells #[.slice (some ⟨c, 0, none⟩) 1 1, .slice (some ⟨u, 0, none⟩) 1 1, .slice (some ⟨b, 0, none⟩) 1 1, .int .i32 31] 67)).cell? ⟨w.heap.size, 0, none⟩ = some (.slice (some ⟨c, 0, none⟩) 1 1) := RX.cell 0
  have x1 : (w.alloc (.cells #[.slice (some ⟨c, 0, none⟩) 1 1, .slice (some ⟨u, 0, none⟩) 1 1, .slice (some ⟨b, 0, none⟩) 1 1, .int .i32 31] 67)).cell? ⟨w.heap.size, 1, none⟩ = some (.slice (some ⟨u, 0, none⟩) 1 1) := RX.cell 1
  have x2 : (w.alloc (.cells #[.slice (some ⟨c, 0, none⟩) 1 1, .slice (some ⟨u, 0, none⟩) 1 1, .slice (some ⟨b, 0, none⟩) 1 1, .int .i32 31] 67)).cell? ⟨w.heap.size, 2, none⟩ = some (.slice (some ⟨b, 0, none⟩) 1 1) := RX.cell 2
  have x3 : (w.alloc (.cells #[.slice (some ⟨c, 0, none⟩) 1 1, .slice (some ⟨u, 0, none⟩) 1 1, .slice (some ⟨b, 0, none⟩) 1 1, .int .i32 31] 67)).cell? ⟨w.heap.size, 3, none⟩ = some (.int .i32 31) := RX.cell 3
  have HBW := Lib.hid BW
  have HG := Lib.hid (hG.below BW)
  have HK := Lib.hid (hK.below BW)
  clear hK hG BW RX
  go_enter Tryz.func42, Tryz.ntmps42
  go_wp2_with fail
  have RS := Row.new' (w.alloc (.cells #[.slice (some ⟨c, 0, none⟩) 1 1, .slice (some ⟨u, 0, none⟩) 1 1, .slice (some ⟨b, 0, none⟩) 1 1, .int .i32 31] 67)) #[.func (.func 89) #[.slice (some ⟨c, 0, none⟩) 1 1] #[], .func (.func 86) #[.slice (some ⟨u, 0, none⟩) 1 1] #[], .func (.func 87) #[.agg #[.slice (some ⟨b, 0, none⟩) 1 1, .int .i32 31]] #[]] 96 (g := w.heap.size + 1) (by simp)
  have B2 := below_alloc (Below.refl _ (w.alloc (.cells #[.slice (some ⟨c, 0, none⟩) 1 1, .slice (some ⟨u, 0, none⟩) 1 1, .slice (some ⟨b, 0, none⟩) 1 1, .int .i32 31] 67))) (.cells #[.func (.func 89) #[.slice (some ⟨c, 0, none⟩) 1 1] #[], .func (.func 86) #[.slice (some ⟨u, 0, none⟩) 1 1] #[], .func (.func 87) #[.agg #[.slice (some ⟨b, 0, none⟩) 1 1, .int .i32 31]] #[]] 96)
  have HB1 := Lib.hid (below_then HBW.out B2)
  have HG1 := Lib.hid (HG.out.below B2)
  have HK1 := Lib.hid (HK.out.below B2)
  clear x0 x1 x2 x3 B2 HBW HG HK
  generalize (w.alloc (.cells #[.slice (some ⟨c, 0, none⟩) 1 1, .slice (some ⟨u, 0, none⟩) 1 1, .slice (some ⟨b, 0, none⟩) 1 1, .int .i32 31] 67)).alloc (.cells #[.func (.func 89) #[.slice (some ⟨c, 0, none⟩) 1 1] #[], .func (.func 86) #[.slice (some ⟨u, 0, none⟩) 1 1] #[], .func (.func 87) #[.agg #[.slice (some ⟨b, 0, none⟩) 1 1, .int .i32 31]] #[]] 96) = w1 at *
  obtain ⟨g, hg⟩ : ∃ g, g = w.heap.size + 1 := ⟨_, rfl⟩
  rw [← hg] at RS ⊢
  clear hg
  have c0 : w1.cell? ⟨g, 0, none⟩ = some (.func (.func 89) #[.slice (some ⟨c, 0, none⟩) 1 1] #[]) := RS.cell 0
  have HR1 := Lib.hid RS
  clear RS
  refine wp_loop_rounds 4 ?_
  rw [rounds_succ]
  go_wp2_with fail
  refine (ccheck10 c w1 HK1.out.1).mono ?_
  rintro _ w2 ⟨rfl, hb⟩
  have c1 : w2.cell? ⟨g, 1, none⟩ = some (.func (.func 86) #[.slice (some ⟨u, 0, none⟩) 1 1] #[]) := (HR1.out.below hb).cell 1
  have HR2 := Lib.hid (HR1.out.below hb)
  have HB2 := Lib.hid (below_then HB1.out hb)
  have HG2 := Lib.hid (HG1.out.below hb)
  have HK2 := Lib.hid (HK1.out.below hb)
  clear hb c0
  go_wp2_with fail
  rw [rounds_succ]
  go_wp2_with fail
  refine (ucheck10 u w2 HK2.out.2.1).mono ?_
  rintro _ w3 ⟨rfl, hb⟩
  have c2 : w3.cell? ⟨g, 2, none⟩ = some (.func (.func 87) #[.agg #[.slice (some ⟨b, 0, none⟩) 1 1, .int .i32 31]] #[]) := (HR2.out.below hb).cell 2
  have HB3 := Lib.hid (below_then HB2.out hb)
  have HG3 := Lib.hid (HG2.out.below hb)
  have HK3 := Lib.hid (HK2.out.below hb)
  clear hb c1
  go_wp2_with fail
  rw [rounds_succ]
  go_wp2_with fail
  refine (calcheck10 b w3 HK3.out.2.2 HG3.out).mono ?_
  rintro _ w4 ⟨rfl, hb⟩
  have HB4 := Lib.hid (below_then HB3.out hb)
  clear hb c2
  go_wp2_with fail
  rw [rounds_succ]
  go_wp2_with fail
  exact bodyPost_ret (v := .int .i64 0) (by simp [results, Tryz.results42, go_sem]) rfl ⟨rfl, HB4.out⟩
set_option maxHeartbeats 1000000 in
theorem bcheck10 (c u b : Nat) (w : World) (hK : Bk w c u b) (hG : Glb5 w) : Calls Tryz.prog 230 #[.agg (bkV c u b)] w fun e w' => e = .returned (.int .i64 0) ∧ Below w.heap.size w w' := by
  have RX := Row.new w (bkV c u b) 84
  have BW := below_alloc (Below.refl _ w) (.cells (bkV c u b) 84)
  have HBW := Lib.hid BW
  have HG := Lib.hid (hG.below BW)
  have HK := Lib.hid (hK.below BW)
  have x0 : (w.alloc (.cells (bkV c u b) 84)).cell? ⟨w.heap.size, 0, none⟩ = some (.slice (some ⟨c, 0, none⟩) 1 1) := RX.cell 0
  have x1 : (w.alloc (.cells (bkV c u b) 84)).cell? ⟨w.heap.size, 1, none⟩ = some (.slice (some ⟨u, 0, none⟩) 1 1) := RX.cell 1
  have x2 : (w.alloc (.cells (bkV c u b) 84)).cell? ⟨w.heap.size, 2, none⟩ = some (.slice (some ⟨b, 0, none⟩) 1 1) := RX.cell 2
  have x3 : (w.alloc (.cells (bkV c u b) 84)).cell? ⟨w.heap.size, 3, none⟩ = some (.int .i32 31) := RX.cell 3
  clear hK hG BW
  have HRX := Lib.hid RX
  clear RX
  unfold bkV at *
  go_enter Tryz.func230, Tryz.ntmps230
  go_wp2_with fail
  refine (fcheck10 c u b _ HK.out HG.out).mono ?_
  rintro _ w2 ⟨rfl, hb⟩
  have HB2 := Lib.hid (below_then HBW.out hb)
  have RX2 := HRX.out.below hb
  have y4 : w2.cell? ⟨w.heap.size, 4, none⟩ = some (.slice none 0 0) := RX2.cell 4
  clear RX2 hb x0 x1 x2 x3
  go_wp2_with fail
  refine wp_loop_rounds 1 ?_
  rw [rounds_succ]
  go_wp2_with fail
  exact bodyPost_ret (v := .int .i64 0) (by simp [results, Tryz.results230, go_sem]) rfl ⟨rfl, HB2.out⟩
set_option maxHeartbeats 1000000 in
theorem awake10 (w : World) (hG : Glb5 w) : Calls Tryz.prog 188 #[] w fun e w' => e = .returned (.bool true) ∧ Below w.heap.size w w' := by
  have HG := Lib.hid hG
  clear hG
  go_enter Tryz.func188, Tryz.ntmps188
  go_wp2_with fail
  refine (make10 w).mono ?_
  rintro _ w1 ⟨c, u, b, rfl, hK, hb⟩
  have HB1 := Lib.hid hb
  have HK1 := Lib.hid hK
  clear hb hK
  go_wp2_with (first | (refine ev_alloc (N := 1) rfl rfl 84 rfl #[.slice none 0 0, .slice none 0 0, .slice none 0 0, .int .i32 0, .slice none 0 0] (fun w => by kernel_rfl) ?_; intro g w2 hg RG B2) | (refine ev_store rfl 84 _ _ rfl g (bkV c u b) rfl rfl RG (by unfold bkV; kernel_rfl) rfl (by simp [bkV, Value.oneCell']) rfl ?_; intro w3 RZ S3; have HK3 := Lib.hid ((HK1.out.below B2).stored S3 RG); have HB3 := Lib.hid (S3.below (below_then HB1.out B2) (Nat.le_trans HB1.out.size hg)); clear RG S3 B2 hg) | (refine ev_load (N := 8) rfl rfl 84 _ rfl g rfl RZ _ Tryz.underlying84 rfl (by unfold bkV; kernel_rfl) ?_))
  refine (days10 c u b w3).mono ?_
  rintro _ w4 ⟨rfl, hb⟩
  have R4 := RZ.below hb
  have HB4 := Lib.hid (below_then HB3.out hb)
  have HK4 := Lib.hid (HK3.out.below hb)
  clear hb RZ
  go_wp2_with (first | (refine ev_load (N := 13) rfl rfl 84 _ rfl g rfl R4 _ Tryz.underlying84 rfl (by unfold bkV; kernel_rfl) ?_))
  refine (bcheck10 c u b w4 HK4.out (HG.out.below HB4.out)).mono ?_
  rintro _ w5 ⟨rfl, hb⟩
  have HB5 := Lib.hid (below_then HB4.out hb)
  clear hb R4
  go_wp2_with fail
  refine (awake9 w5 (HG.out.below HB5.out)).mono ?_
  rintro _ w6 ⟨rfl, hb⟩
  go_wp2
  go_ret
  exact ⟨rfl, below_then HB5.out hb⟩
end Go.Proofs.YtbhjkddjgikaiaaGreatDoor

namespace Go.Proofs.YtbhjkddjgikaiaaGreatDoor
open Go.RowKit
set_option linter.unusedVariables false
set_option linter.unusedSimpArgs false

theorem info_u8 : ∃ i, Tryz.prog.info? 5 = some i ∧ i.zero = some (.int .u8 0) ∧ i.size = 1 ∧ i.bytes = 1 := by
  have h : (Tryz.prog.info? 5).map (fun i => (i.zero, i.size, i.bytes)) = some (some (.int .u8 0), 1, 1) := by kernel_rfl
  obtain ⟨i, hi, h⟩ := Option.map_eq_some_iff.1 h
  simp only [Prod.mk.injEq] at h
  exact ⟨i, hi, h.1, h.2.1, h.2.2⟩
/-- the writer's block holds these bytes -/
def Wr (B : Nat) (w : World) (q : Nat) (bs : List Int) : Prop := ∃ v, Row w q #[v] 297 ∧ v.oneCell' = true ∧ w.ownsRow B 5 1 v bs.length (nv .u8 bs)
theorem own_cells {w : World} {B n size g : Nat} {e : TypeId} {v : Value} {xs : List Value} (h : w.ownsRow B e size v n xs) (hg : v.ownBlock = some g) : ∃ cs, w.heap[g]? = some (.cells cs e (0, 0)) := by
  rcases h.2 with ⟨rfl, _⟩ | ⟨g', cap, cur, rfl, _, hh, _⟩
  · simp [Value.ownBlock] at hg
  · simp [Value.ownBlock] at hg
    subst hg
    exact ⟨cur, hh⟩
theorem append_byte (W : World) (B : Nat) (ty : TypeId) (v : Value) (n : Nat) (xs : List Int) (hown : W.ownsRow B 5 1 v n (nv .u8 xs)) (g : Nat) (z : Int) (RG : Row W g #[.int .u8 z] 5) (hn : n ≤ 100000) (hB : B ≤ W.heap.size) :
    ∃ v' w', (Builtin.append_ #[22, 22] ty #[v, .slice (some ⟨g, 0, none⟩) 1 1]).run Tryz.prog W = .ok v' w' ∧ w'.ownsRow B 5 1 v' (n + 1) (nv .u8 (xs ++ [z])) ∧ W.grownBy w' v.ownBlock ∧ Below B W w' := by
  obtain ⟨i, hi, h1, h2, h3⟩ := info_u8
  obtain ⟨v', w', hr, k2, k3, k4, k5⟩ := run_append_own_at (P := Tryz.prog) W B 22 ty 5 i (.int .u8 0) 1 1 Tryz.underlying22 hi h1 h2 h3 rfl (by omega) v n (nv .u8 xs) hown ⟨g, 0, none⟩ 1 1 [.int .u8 z] rfl (fun j u hj => by
    rcases j with _ | j
    · simp at hj
      subst hj
      rw [show (⟨g, 0, none⟩ : Addr).add 0 = ⟨g, 0, none⟩ from rfl, RG.cell 0]
      rfl
    · simp at hj) (fun u hu => by simp at hu; subst hu; rfl) (by unfold maxLen; omega) (by omega) hB
  refine ⟨v', w', hr, by unfold nv at k2 ⊢; rwa [List.map_append], k3, (Below.refl B W).grown k3 hB ?_⟩
  intro k hk
  rcases hown.2 with ⟨rfl, _⟩ | ⟨g, cap, cur, rfl, hg, _⟩
  · simp [Value.ownBlock] at hk
  · simp [Value.ownBlock] at hk
    omega
set_option maxHeartbeats 1000000 in
set_option maxRecDepth 100000 in
theorem num_small (B q : Nat) (n : Int) (bs : List Int) (w : World) (hW : Wr B w q bs) (hq : B ≤ q) (hn : 0 ≤ n ∧ n ≤ 127) (hl : bs.length ≤ 100000) :
    Calls Tryz.prog 227 #[.pointer (some ⟨q, 0, none⟩), .int .u64 n] w fun e w' => e = .returned (.tuple #[]) ∧ Wr B w' q (bs ++ [n]) ∧ Below B w w' := by
  obtain ⟨v, RQ, h1, ho⟩ := hW
  have h127 : ¬ (127 < n) := by omega
  have hwr : IntKind.u8.wrap n = n := by rw [IntKind.wrap_u8]; omega
  have c0 : w.cell? ⟨q, 0, none⟩ = some v := RQ.cell 0
  have hB : B ≤ w.heap.size := Nat.le_trans hq (Nat.le_of_lt RQ.lt)
  have RN := Row.new w #[.int .u8 n] 5
  have BA := (Below.refl B w).alloc hB (.cells #[.int .u8 n] 5)
  have ho1 := ownW_below ho (below_alloc (Below.refl _ w) (.cells #[.int .u8 n] 5))
  have hne : v.ownBlock ≠ some q := fun e => by
    obtain ⟨cs, h⟩ := own_cells ho e
    have h2 := h.symm.trans RQ
    simp at h2
  obtain ⟨v', w2, hr, ho2, hgr, hb⟩ := append_byte (w.alloc (.cells #[.int .u8 n] 5)) B 22 v bs.length bs ho1 w.heap.size n RN hl (by simp; omega)
  have HR := Lib.hid hr
  have RQ2 : Row w2 q #[v] 297 := (hgr.block q (by have := RQ.lt; simp; omega) (fun e => hne e.symm)).trans (RQ.alloc _)
  have hne2 : v'.ownBlock ≠ some q := fun e => by
    obtain ⟨cs, h⟩ := own_cells ho2 e
    have h2 := h.symm.trans RQ2
    simp at h2
  have h1' : v'.oneCell' = true := by obtain ⟨p, c, rfl⟩ := own_slice ho2; rfl
  have d0 : w2.cell? ⟨q, 0, none⟩ = some v := RQ2.cell 0
  have df : w2.frozen? ⟨q, 0, none⟩ = false := RQ2.frozen 0
  have HEND := Lib.hid (show Wr B (w2.setCell ⟨q, 0, none⟩ v') q (bs ++ [n]) ∧ Below B w (w2.setCell ⟨q, 0, none⟩ v') from ⟨⟨v', RQ2.set 0 v', h1', by rw [List.length_append]; exact ownW_stored ho2 (stored_setCell w2 q 0 v') hne2⟩, (BA.trans hb).setCell hq v'⟩)
  obtain ⟨p', c', hv'⟩ := own_slice ho2
  subst hv'
  clear RQ hq hn hl ho RN BA ho1 hne hr ho2 hgr hb hne2 RQ2 hB
  go_enter Tryz.func227, Tryz.ntmps227
  go_wp2_with fail
  refine wp_loop_rounds 1 ?_
  rw [rounds_succ]
  go_wp2_with (at_builtin; refine ev_run rfl (run_app_op _ _ _ _ rfl rfl rfl HR.out) ?_)
  go_end0
  exact ⟨rfl, HEND.out⟩
theorem signed_small (B q : Nat) (n : Int) (bs : List Int) (w : World) (hW : Wr B w q bs) (hq : B ≤ q) (hn : n = 0 ∨ n = 1) (hl : bs.length ≤ 100000) :
    Calls Tryz.prog 229 #[.pointer (some ⟨q, 0, none⟩), .int .i64 n] w fun e w' => e = .returned (.tuple #[]) ∧ Wr B w' q (bs ++ [2 * n]) ∧ Below B w w' := by
  have HN := Lib.hid (num_small B q (2 * n) bs w hW hq (by omega) hl)
  clear hW hq hl
  rcases hn with rfl | rfl
  · go_enter Tryz.func229, Tryz.ntmps229
    go_wp2_with fail
    refine HN.out.mono ?_
    rintro _ w1 ⟨rfl, h⟩
    go_wp2_with fail
    go_end0
    exact ⟨rfl, h⟩
  · go_enter Tryz.func229, Tryz.ntmps229
    go_wp2_with fail
    refine HN.out.mono ?_
    rintro _ w1 ⟨rfl, h⟩
    go_wp2_with fail
    go_end0
    exact ⟨rfl, h⟩
set_option maxHeartbeats 1000000 in
set_option maxRecDepth 100000 in
/-- the first number, behind bytes that are not one's own -/
theorem num_first (B q g : Nat) (n : Int) (bs : List Int) (w : World) (RQ : Row w q #[.slice (some ⟨g, 0, none⟩) bs.length bs.length] 297) (hc : ∀ j v, (nv .u8 bs)[j]? = some v → w.cell? ⟨g, j, none⟩ = some v) (hq : B ≤ q) (hn : 0 ≤ n ∧ n ≤ 127) (hl : bs.length ≤ 100000) :
    Calls Tryz.prog 227 #[.pointer (some ⟨q, 0, none⟩), .int .u64 n] w fun e w' => e = .returned (.tuple #[]) ∧ Wr B w' q (bs ++ [n]) ∧ Below B w w' := by
  have h127 : ¬ (127 < n) := by omega
  have hwr : IntKind.u8.wrap n = n := by rw [IntKind.wrap_u8]; omega
  obtain ⟨v, hv⟩ : ∃ v, v = Value.slice (some ⟨g, 0, none⟩) bs.length bs.length := ⟨_, rfl⟩
  rw [← hv] at RQ
  have c0 : w.cell? ⟨q, 0, none⟩ = some v := RQ.cell 0
  have hB : B ≤ w.heap.size := Nat.le_trans hq (Nat.le_of_lt RQ.lt)
  obtain ⟨W, hW⟩ : ∃ W, W = w.alloc (.cells #[.int .u8 n] 5) := ⟨_, rfl⟩
  have RN : Row W w.heap.size #[.int .u8 n] 5 := by rw [hW]; exact Row.new w #[.int .u8 n] 5
  have BA : Below w.heap.size w W := by rw [hW]; exact below_alloc (Below.refl _ w) (.cells #[.int .u8 n] 5)
  obtain ⟨i, hi, h1, h2, h3⟩ := info_u8
  obtain ⟨G, hG⟩ : ∃ G, G = grownCap W (bs.length + 1) bs.length 5 := ⟨_, rfl⟩
  have hG1 : bs.length + 1 ≤ G := by rw [hG]; exact grownCap_ge W _ _ _
  have hG2 : G ≤ maxLen := by rw [hG]; exact grownCap_le_maxLen W _ _ _ (by unfold maxLen; omega)
  have hr0 := run_append_grow (P := Tryz.prog) (w := W) 22 22 5 i (.int .u8 0) Tryz.underlying22 hi h1 ⟨g, 0, none⟩ bs.length bs.length (nv .u8 bs) (by rw [nv_len, h2, Nat.mul_one]) (fun j v hj => by
    rw [addr_add g 0 j, Nat.zero_add]
    exact cell_then (hc j v hj) BA) ⟨w.heap.size, 0, none⟩ 1 1 [.int .u8 n] (by rw [h2]; rfl) (fun j u hj => by
    rcases j with _ | j
    · simp at hj
      subst hj
      rw [show (⟨w.heap.size, 0, none⟩ : Addr).add 0 = ⟨w.heap.size, 0, none⟩ from rfl, RN.cell 0]
      rfl
    · simp at hj) (by omega) (by omega) (by rw [h3]; exact growslice_fits (by omega) (by omega))
  rw [← hG] at hr0
  obtain ⟨ROW, hROW⟩ : ∃ ROW : Array Value, ROW = (nv .u8 bs).toArray ++ ([.int .u8 n] : List Value).toArray ++ Builtin.zeroCells (Value.int .u8 0).cells (G - (bs.length + 1)) := ⟨_, rfl⟩
  rw [← hROW] at hr0
  have hRs : ROW.size = G := by
    rw [hROW]
    have e1 : (nv .u8 bs).length = bs.length := nv_len _ _
    have e2 : (Builtin.zeroCells (Value.int .u8 0).cells (G - (bs.length + 1))).size = G - (bs.length + 1) := by rw [size_zeroCells]; simp [Value.cells]
    simp only [Array.size_append, List.size_toArray, e1, e2, List.length_singleton]
    omega
  have hRt : ROW.toList.take (bs.length + 1) = nv .u8 (bs ++ [n]) := by
    rw [hROW, Array.toList_append, Array.toList_append]
    have e1 : (nv .u8 (bs ++ [n])).length = bs.length + 1 := by rw [nv_len, List.length_append]; rfl
    have e3 : (nv .u8 bs) ++ [.int .u8 n] = nv .u8 (bs ++ [n]) := by simp [nv]
    show List.take (bs.length + 1) (nv .u8 bs ++ [.int .u8 n] ++ _) = _
    rw [e3, ← e1, List.take_left]
  obtain ⟨w2, hw2⟩ : ∃ w2, w2 = W.drew.alloc (.cells ROW 5) := ⟨_, rfl⟩
  rw [← hw2] at hr0
  have R2 : Row w2 W.heap.size ROW 5 := by rw [hw2]; exact Row.new W.drew ROW 5
  have B2 : Below W.heap.size W w2 := by rw [hw2]; exact below_alloc (below_dr (Below.refl _ W)) _
  have HR := Lib.hid hr0
  have RQ2 : Row w2 q #[v] 297 := Row.below (RQ.below BA) B2
  have hWs : w.heap.size ≤ W.heap.size := BA.size
  have d0 : w2.cell? ⟨q, 0, none⟩ = some v := RQ2.cell 0
  have df : w2.frozen? ⟨q, 0, none⟩ = false := RQ2.frozen 0
  have hqW : W.heap.size ≠ q := by have := RQ.lt; omega
  have hWeq : w.alloc (.cells #[.int .u8 n] 5) = W := hW.symm
  obtain ⟨v', hv'⟩ : ∃ v', v' = Value.slice (some ⟨W.heap.size, 0, none⟩) (bs.length + 1) G := ⟨_, rfl⟩
  have ho2 : w2.ownsRow B 5 1 v' (bs.length + 1) (nv .u8 (bs ++ [n])) := ⟨by rw [nv_len, List.length_append]; simp, .inr ⟨W.heap.size, G, ROW, hv', Nat.le_trans hB hWs, R2, hG1, hG2, by rw [hRs, Nat.mul_one], by rw [Nat.mul_one]; exact hRt⟩⟩
  have HEND := Lib.hid (show Wr B (w2.setCell ⟨q, 0, none⟩ v') q (bs ++ [n]) ∧ Below B w (w2.setCell ⟨q, 0, none⟩ v') from ⟨⟨v', RQ2.set 0 v', by rw [hv']; rfl, by rw [List.length_append]; exact ownW_stored ho2 (stored_setCell w2 q 0 v') (by rw [hv']; simpa [Value.ownBlock] using hqW)⟩, ((below_then BA B2).mono hB).setCell hq v'⟩)
  rw [hv'] at HEND
  rw [hv] at c0 d0
  have HWE := Lib.hid hWeq
  clear RQ hq hn hl hc RN BA hr0 R2 B2 RQ2 hB hRs hRt hROW hG hG1 hG2 hw2 hW hWeq hWs hqW ho2 hv' hv h1 h2 h3 hi
  go_enter Tryz.func227, Tryz.ntmps227
  go_wp2_with fail
  refine wp_loop_rounds 1 ?_
  rw [rounds_succ]
  go_wp2_with (first | (simp only [HWE.out]) | (at_builtin; refine ev_run rfl (run_app_op _ _ _ _ rfl rfl rfl HR.out) ?_))
  go_end0
  exact ⟨rfl, HEND.out⟩
theorem Row.belowB {w w' : World} {B g : Nat} {cs : Array Value} {t : TypeId} (h : Row w g cs t) (hg : g < B) (hb : Below B w w') : Row w' g cs t := (hb.block g hg).trans h
set_option maxHeartbeats 4000000 in
set_option maxRecDepth 100000 in
theorem encode11 (s : Nat) (w : World) (hS : Row w s #[.int .i32 0] 44) : Calls Tryz.prog 186 #[.agg #[.slice none 0 0, .slice none 0 0, .slice (some ⟨s, 0, none⟩) 1 1, .int .i32 1, .slice none 0 0]] w fun e w' => ∃ v, e = .returned v ∧ NsAt .u8 w' v [84, 82, 80, 49, 0, 0, 1, 0, 2, 0] ∧ Below w.heap.size w w' := by
  have RX := (Row.new w #[.slice none 0 0, .slice none 0 0, .slice (some ⟨s, 0, none⟩) 1 1, .int .i32 1, .slice none 0 0] 84).alloc (.cells #[.int .u8 84, .int .u8 82, .int .u8 80, .int .u8 49] 5 (4, 5))
  have cB : ∀ j, ((w.alloc (.cells #[.slice none 0 0, .slice none 0 0, .slice (some ⟨s, 0, none⟩) 1 1, .int .i32 1, .slice none 0 0] 84)).alloc (.cells #[.int .u8 84, .int .u8 82, .int .u8 80, .int .u8 49] 5 (4, 5))).cell? ⟨w.heap.size + 1, j, none⟩ = #[.int .u8 84, .int .u8 82, .int .u8 80, .int .u8 49][j]? := fun j => Joins.cell_alloc_mark_at _ #[.int .u8 84, .int .u8 82, .int .u8 80, .int .u8 49] _ _ _ j (by simp)
  have BW := below_alloc (below_alloc (Below.refl _ w) (.cells #[.slice none 0 0, .slice none 0 0, .slice (some ⟨s, 0, none⟩) 1 1, .int .i32 1, .slice none 0 0] 84)) (.cells #[.int .u8 84, .int .u8 82, .int .u8 80, .int .u8 49] 5 (4, 5))
  have hz : ((w.alloc (.cells #[.slice none 0 0, .slice none 0 0, .slice (some ⟨s, 0, none⟩) 1 1, .int .i32 1, .slice none 0 0] 84)).alloc (.cells #[.int .u8 84, .int .u8 82, .int .u8 80, .int .u8 49] 5 (4, 5))).heap.size = w.heap.size + 2 := by simp
  have hcv := Joins.run_convert_bytes_const_at (P := Tryz.prog) (w.alloc (.cells #[.slice none 0 0, .slice none 0 0, .slice (some ⟨s, 0, none⟩) 1 1, .int .i32 1, .slice none 0 0] 84)) 22 5 #[.int .u8 84, .int .u8 82, .int .u8 80, .int .u8 49] 4 4 (w.heap.size + 1) (by simp) Tryz.underlying22 Tryz.underlying5
  have RS := hS.below BW
  have hs := hS.lt
  have HW := Lib.hid (And.intro BW hs)
  clear hS BW
  go_enter Tryz.func186, Tryz.ntmps186
  go_wp2_with fail
  have RQ := Row.new' ((w.alloc (.cells #[.slice none 0 0, .slice none 0 0, .slice (some ⟨s, 0, none⟩) 1 1, .int .i32 1, .slice none 0 0] 84)).alloc (.cells #[.int .u8 84, .int .u8 82, .int .u8 80, .int .u8 49] 5 (4, 5))) #[.slice (some ⟨w.heap.size + 1, 0, none⟩) 4 4] 297 hz.symm
  have RX := RX.alloc (.cells #[.slice (some ⟨w.heap.size + 1, 0, none⟩) 4 4] 297)
  have RS := RS.alloc (.cells #[.slice (some ⟨w.heap.size + 1, 0, none⟩) 4 4] 297)
  have BW := below_alloc HW.out.1 (.cells #[.slice (some ⟨w.heap.size + 1, 0, none⟩) 4 4] 297)
  have hc : ∀ j v, (nv .u8 [84, 82, 80, 49])[j]? = some v → (((w.alloc (.cells #[.slice none 0 0, .slice none 0 0, .slice (some ⟨s, 0, none⟩) 1 1, .int .i32 1, .slice none 0 0] 84)).alloc (.cells #[.int .u8 84, .int .u8 82, .int .u8 80, .int .u8 49] 5 (4, 5))).alloc (.cells #[.slice (some ⟨w.heap.size + 1, 0, none⟩) 4 4] 297)).cell? ⟨w.heap.size + 1, j, none⟩ = some v := fun j v hj => cell_then ((cB j).trans (by simpa [nv] using hj)) (below_alloc (Below.refl _ _) _)
  have hzw : w.heap.size + 1 ≤ (((w.alloc (.cells #[.slice none 0 0, .slice none 0 0, .slice (some ⟨s, 0, none⟩) 1 1, .int .i32 1, .slice none 0 0] 84)).alloc (.cells #[.int .u8 84, .int .u8 82, .int .u8 80, .int .u8 49] 5 (4, 5))).alloc (.cells #[.slice (some ⟨w.heap.size + 1, 0, none⟩) 4 4] 297)).heap.size := by simp
  generalize ((w.alloc (.cells #[.slice none 0 0, .slice none 0 0, .slice (some ⟨s, 0, none⟩) 1 1, .int .i32 1, .slice none 0 0] 84)).alloc (.cells #[.int .u8 84, .int .u8 82, .int .u8 80, .int .u8 49] 5 (4, 5))).alloc (.cells #[.slice (some ⟨w.heap.size + 1, 0, none⟩) 4 4] 297) = w0 at *
  obtain ⟨B, hBe⟩ : ∃ B, B = w.heap.size + 1 := ⟨_, rfl⟩
  obtain ⟨q, hqe⟩ : ∃ q, q = w.heap.size + 2 := ⟨_, rfl⟩
  obtain ⟨x, hxe⟩ : ∃ x, x = w.heap.size := ⟨_, rfl⟩
  have hq : B ≤ q := by omega
  have hxB : x < B := by omega
  have hsB : s < B := by omega
  have hBw : B ≤ w0.heap.size := by omega
  rw [← hBe] at RQ hc
  rw [← hqe] at RQ ⊢
  rw [← hxe] at RX ⊢
  have HF := Lib.hid (And.intro hq (And.intro hxB (And.intro hsB (And.intro hBw (And.intro hxe hBe)))))
  have HB0 := Lib.hid (Below.refl B w0)
  have HX0 := Lib.hid RX
  have HS0 := Lib.hid RS
  have HBW := Lib.hid BW
  have HN := Lib.hid (num_first B q B 0 [84, 82, 80, 49] w0 RQ hc hq (by omega) (by show 4 ≤ 100000; omega))
  clear RX RS BW RQ hc hz hzw hcv cB hq hxB hsB hBw hBe hqe hxe hs HW
  refine HN.out.mono ?_
  rintro _ w1 ⟨rfl, hw, hb⟩
  have HB1 := Lib.hid (HB0.out.trans hb)
  have HX1 := Lib.hid (HX0.out.belowB HF.out.2.1 hb)
  have HS1 := Lib.hid (HS0.out.belowB HF.out.2.2.1 hb)
  have HW1 := Lib.hid hw
  have x0 : w1.cell? ⟨x, 0, none⟩ = some (.slice none 0 0) := HX1.out.cell 0
  have x1 : w1.cell? ⟨x, 1, none⟩ = some (.slice none 0 0) := HX1.out.cell 1
  have x2 : w1.cell? ⟨x, 2, none⟩ = some (.slice (some ⟨s, 0, none⟩) 1 1) := HX1.out.cell 2
  have x3 : w1.cell? ⟨x, 3, none⟩ = some (.int .i32 1) := HX1.out.cell 3
  have x4 : w1.cell? ⟨x, 4, none⟩ = some (.slice none 0 0) := HX1.out.cell 4
  have s0 : w1.cell? ⟨s, 0, none⟩ = some (.int .i32 0) := HS1.out.cell 0
  clear hw hb
  go_wp2_with fail
  refine wp_loop_rounds 1 ?_
  rw [rounds_succ]
  go_wp2_with fail
  clear x0 x1 x2 x3 x4 s0
  refine (num_small B q 0 [84, 82, 80, 49, 0] w1 HW1.out HF.out.1 (by omega) (by simp)).mono ?_
  rintro _ w2 ⟨rfl, hw, hb⟩
  have HB2 := Lib.hid (HB1.out.trans hb)
  have HX2 := Lib.hid (HX1.out.belowB HF.out.2.1 hb)
  have HS2 := Lib.hid (HS1.out.belowB HF.out.2.2.1 hb)
  have HW2 := Lib.hid hw
  have x0 : w2.cell? ⟨x, 0, none⟩ = some (.slice none 0 0) := HX2.out.cell 0
  have x1 : w2.cell? ⟨x, 1, none⟩ = some (.slice none 0 0) := HX2.out.cell 1
  have x2 : w2.cell? ⟨x, 2, none⟩ = some (.slice (some ⟨s, 0, none⟩) 1 1) := HX2.out.cell 2
  have x3 : w2.cell? ⟨x, 3, none⟩ = some (.int .i32 1) := HX2.out.cell 3
  have x4 : w2.cell? ⟨x, 4, none⟩ = some (.slice none 0 0) := HX2.out.cell 4
  have s0 : w2.cell? ⟨s, 0, none⟩ = some (.int .i32 0) := HS2.out.cell 0
  clear hw hb
  go_wp2_with fail
  refine wp_loop_rounds 1 ?_
  rw [rounds_succ]
  go_wp2_with fail
  clear x0 x1 x2 x3 x4 s0
  refine (num_small B q 1 [84, 82, 80, 49, 0, 0] w2 HW2.out HF.out.1 (by omega) (by simp)).mono ?_
  rintro _ w3 ⟨rfl, hw, hb⟩
  have HB3 := Lib.hid (HB2.out.trans hb)
  have HX3 := Lib.hid (HX2.out.belowB HF.out.2.1 hb)
  have HS3 := Lib.hid (HS2.out.belowB HF.out.2.2.1 hb)
  have HW3 := Lib.hid hw
  have x0 : w3.cell? ⟨x, 0, none⟩ = some (.slice none 0 0) := HX3.out.cell 0
  have x1 : w3.cell? ⟨x, 1, none⟩ = some (.slice none 0 0) := HX3.out.cell 1
  have x2 : w3.cell? ⟨x, 2, none⟩ = some (.slice (some ⟨s, 0, none⟩) 1 1) := HX3.out.cell 2
  have x3 : w3.cell? ⟨x, 3, none⟩ = some (.int .i32 1) := HX3.out.cell 3
  have x4 : w3.cell? ⟨x, 4, none⟩ = some (.slice none 0 0) := HX3.out.cell 4
  have s0 : w3.cell? ⟨s, 0, none⟩ = some (.int .i32 0) := HS3.out.cell 0
  clear hw hb
  go_wp2_with fail
  refine wp_loop_rounds 2 ?_
  rw [rounds_succ]
  go_wp2_with fail
  clear x0 x1 x2 x3 x4 s0
  refine (signed_small B q 0 [84, 82, 80, 49, 0, 0, 1] w3 HW3.out HF.out.1 (by omega) (by simp)).mono ?_
  rintro _ w4 ⟨rfl, hw, hb⟩
  have HB4 := Lib.hid (HB3.out.trans hb)
  have HX4 := Lib.hid (HX3.out.belowB HF.out.2.1 hb)
  have HS4 := Lib.hid (HS3.out.belowB HF.out.2.2.1 hb)
  have HW4 := Lib.hid hw
  have x0 : w4.cell? ⟨x, 0, none⟩ = some (.slice none 0 0) := HX4.out.cell 0
  have x1 : w4.cell? ⟨x, 1, none⟩ = some (.slice none 0 0) := HX4.out.cell 1
  have x2 : w4.cell? ⟨x, 2, none⟩ = some (.slice (some ⟨s, 0, none⟩) 1 1) := HX4.out.cell 2
  have x3 : w4.cell? ⟨x, 3, none⟩ = some (.int .i32 1) := HX4.out.cell 3
  have x4 : w4.cell? ⟨x, 4, none⟩ = some (.slice none 0 0) := HX4.out.cell 4
  have s0 : w4.cell? ⟨s, 0, none⟩ = some (.int .i32 0) := HS4.out.cell 0
  clear hw hb
  go_wp2_with fail
  rw [rounds_succ]
  go_wp2_with fail
  clear x0 x1 x2 x3 x4 s0
  refine (signed_small B q 1 [84, 82, 80, 49, 0, 0, 1, 0] w4 HW4.out HF.out.1 (by omega) (by simp)).mono ?_
  rintro _ w5 ⟨rfl, hw, hb⟩
  have HB5 := Lib.hid (HB4.out.trans hb)
  have HX5 := Lib.hid (HX4.out.belowB HF.out.2.1 hb)
  have HS5 := Lib.hid (HS4.out.belowB HF.out.2.2.1 hb)
  have HW5 := Lib.hid hw
  have x0 : w5.cell? ⟨x, 0, none⟩ = some (.slice none 0 0) := HX5.out.cell 0
  have x1 : w5.cell? ⟨x, 1, none⟩ = some (.slice none 0 0) := HX5.out.cell 1
  have x2 : w5.cell? ⟨x, 2, none⟩ = some (.slice (some ⟨s, 0, none⟩) 1 1) := HX5.out.cell 2
  have x3 : w5.cell? ⟨x, 3, none⟩ = some (.int .i32 1) := HX5.out.cell 3
  have x4 : w5.cell? ⟨x, 4, none⟩ = some (.slice none 0 0) := HX5.out.cell 4
  have s0 : w5.cell? ⟨s, 0, none⟩ = some (.int .i32 0) := HS5.out.cell 0
  clear hw hb
  go_wp2_with fail
  clear x0 x1 x2 x3 x4 s0
  refine (num_small B q 0 [84, 82, 80, 49, 0, 0, 1, 0, 2] w5 HW5.out HF.out.1 (by omega) (by simp)).mono ?_
  rintro _ w6 ⟨rfl, hw, hb⟩
  have HB6 := Lib.hid (HB5.out.trans hb)
  have HX6 := Lib.hid (HX5.out.belowB HF.out.2.1 hb)
  have HS6 := Lib.hid (HS5.out.belowB HF.out.2.2.1 hb)
  have HW6 := Lib.hid hw
  have x0 : w6.cell? ⟨x, 0, none⟩ = some (.slice none 0 0) := HX6.out.cell 0
  have x1 : w6.cell? ⟨x, 1, none⟩ = some (.slice none 0 0) := HX6.out.cell 1
  have x2 : w6.cell? ⟨x, 2, none⟩ = some (.slice (some ⟨s, 0, none⟩) 1 1) := HX6.out.cell 2
  have x3 : w6.cell? ⟨x, 3, none⟩ = some (.int .i32 1) := HX6.out.cell 3
  have x4 : w6.cell? ⟨x, 4, none⟩ = some (.slice none 0 0) := HX6.out.cell 4
  have s0 : w6.cell? ⟨s, 0, none⟩ = some (.int .i32 0) := HS6.out.cell 0
  clear hw hb
  go_wp2_with fail
  refine wp_loop_rounds 1 ?_
  rw [rounds_succ]
  obtain ⟨v, RQ, _, ho⟩ := HW6.out
  obtain ⟨hN, _⟩ := NsAt.of_own (l := [84, 82, 80, 49, 0, 0, 1, 0, 2, 0]) ho
  have q0 : w6.cell? ⟨q, 0, none⟩ = some v := RQ.cell 0
  have HE := Lib.hid (And.intro hN (show Below w.heap.size w w6 from HBW.out.trans (HB6.out.mono (by have := HF.out; omega))))
  have H1 := Lib.hid RQ
  obtain ⟨p, c, rfl⟩ := own_slice ho
  clear hN ho RQ
  go_wp2_with fail
  exact bodyPost_ret (by simp [results, Tryz.results186, go_sem]) rfl ⟨_, rfl, HE.out⟩
end Go.Proofs.YtbhjkddjgikaiaaGreatDoor

namespace Go.Proofs.YtbhjkddjgikaiaaGreatDoor
open Go.RowKit
set_option linter.unusedVariables false
set_option linter.unusedSimpArgs false

set_option maxHeartbeats 1000000 in
theorem awake11 (w : World) (hG : Glb5 w) : Calls Tryz.prog 143 #[] w fun e w' => e = .returned (.bool true) ∧ Below w.heap.size w w' := by
  have HG := Lib.hid hG
  clear hG
  have HE := Lib.hid (encode11 w.heap.size (w.alloc (.cells #[.int .i32 0] 44)) (Row.new w _ _))
  have HB := Lib.hid (below_alloc (Below.refl _ w) (.cells #[.int .i32 0] 44))
  go_enter Tryz.func143, Tryz.ntmps143
  go_wp2_with fail
  refine HE.out.mono ?_
  rintro _ w1 ⟨v, rfl, hN, hb⟩
  have HB1 := Lib.hid (below_then HB.out hb)
  clear hb HE
  go_wp2_with fail
  have R7 := Row.new w1 #[.int .u8 84, .int .u8 82, .int .u8 80, .int .u8 49, .int .u8 0, .int .u8 0, .int .u8 1, .int .u8 0, .int .u8 2, .int .u8 0] 5
  have B7 := below_alloc (Below.refl _ w1) (.cells #[.int .u8 84, .int .u8 82, .int .u8 80, .int .u8 49, .int .u8 0, .int .u8 0, .int .u8 1, .int .u8 0, .int .u8 2, .int .u8 0] 5)
  refine (equal_byte _ _ [84, 82, 80, 49, 0, 0, 1, 0, 2, 0] _ (hN.below B7) (NsAt.of_row (l := [84, 82, 80, 49, 0, 0, 1, 0, 2, 0]) R7) (by show 10 ≤ 1000000; omega)).mono ?_
  rintro _ w3 ⟨rfl, hb3⟩
  have HB3 := Lib.hid (below_then (below_then HB1.out B7) hb3)
  clear R7 B7 hN hb3
  go_wp2_with fail
  refine (awake10 w3 (HG.out.below HB3.out)).mono ?_
  rintro _ w5 ⟨rfl, hb5⟩
  go_wp2
  go_ret
  exact ⟨rfl, below_then HB3.out hb5⟩
end Go.Proofs.YtbhjkddjgikaiaaGreatDoor
