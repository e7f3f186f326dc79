/-
  Own texts, several in one (EqualK, Law5t).
-/
import Derived.Test.YtahagfdjpldblaaGreatDoorMrg17
import Derived.Test.YtahagfdjpldblaaGreatDoorMrg16
import Derived.Test.YtahagfdjpldblaaGreatDoorMrg13
import Derived.Test.YtahagfdjpldblaaGreatDoorMrg15
import Derived.Carry
namespace Go.Proofs.YtahagfdjpldblaaGreatDoor
open Go.RowKit Ky
set_option linter.unusedVariables false
set_option linter.unusedSimpArgs false

set_option maxHeartbeats 1000000 in
set_option maxRecDepth 100000 in
theorem equalK_same (v1 v2 : Value) (l : List K) (w : World) (h1 : KeysAt w v1 l) (h2 : KeysAt w v2 l) (hl : l.length ≤ 1000) :
    Calls Tryz.prog 20 #[v1, v2] w fun e w' => e = .returned (.bool true) ∧ Below w.heap.size w w' := by
  obtain ⟨p1, cap1, rfl, h1⟩ := h1
  obtain ⟨p2, cap2, rfl, h2⟩ := h2
  have H1 := Lib.hid h1
  have H2 := Lib.hid h2
  have HL := Lib.hid hl
  clear h1 h2 hl
  go_enter Tryz.func20, Tryz.ntmps20
  go_wp2_with fail
  go_loopw [13] (fun i wr => ∃ k : Nat, k ≤ l.length ∧ i = .int .i64 k ∧ Below w.heap.size w wr) (fun i _ => l.length - (intOf i).toNat)
  case atStart => exact ⟨0, by omega, rfl, Below.refl _ _⟩
  case round =>
    obtain ⟨k, hk, rfl, BB⟩ := hrel
    have HBB := Lib.hid BB
    clear BB
    by_cases hlt : k < l.length
    · have hk1 : (0 : Int) ≤ (k : Int) := by omega
      have hk2 : (k : Int) < (l.length : Int) := by omega
      obtain ⟨g1, rfl, e1⟩ : ∃ g, p1 = some ⟨g, 0, none⟩ ∧ ∀ t u, (kcs l)[t]? = some u → w.cell? ⟨g, t, none⟩ = some u := by
        rcases H1.out with h | h
        · exact absurd hlt (by rw [h]; simp)
        · exact h
      obtain ⟨g2, rfl, e2⟩ : ∃ g, p2 = some ⟨g, 0, none⟩ ∧ ∀ t u, (kcs l)[t]? = some u → w.cell? ⟨g, t, none⟩ = some u := by
        rcases H2.out with h | h
        · exact absurd hlt (by rw [h]; simp)
        · exact h
      have cw : ∀ (g : Nat), (∀ t u, (kcs l)[t]? = some u → w.cell? ⟨g, t, none⟩ = some u) → ∀ n : QW (fun w' => Below wr.heap.size wr w'), ∀ q, q < 3 → n.w.cell? ⟨g, k * 3 + q, none⟩ = (kc (l.getD k kk0.1))[q]? := fun g e n q hq => (((below_then HBB.out n.h).cell (block_lt_of_cell ((keys_cell e k hlt q hq).trans (List.getElem?_eq_getElem (by rw [kc_len]; exact hq))))).trans (keys_cell e k hlt q hq))
      have x1 := cw g1 e1
      have x2 := cw g2 e2
      generalize l.getD k kk0.1 = x at *
      have d0 : ∀ n : QW (fun w' => Below wr.heap.size wr w'), n.w.cell? ⟨g1, k * 3, none⟩ = some (.int .u32 (x.a : Int)) := fun n => x1 n 0 (by omega)
      have d1 : ∀ n : QW (fun w' => Below wr.heap.size wr w'), n.w.cell? ⟨g1, k * 3 + 1, none⟩ = some (.int .u16 (x.e : Int)) := fun n => x1 n 1 (by omega)
      have d2 : ∀ n : QW (fun w' => Below wr.heap.size wr w'), n.w.cell? ⟨g1, k * 3 + 2, none⟩ = some (.int .u16 (x.p : Int)) := fun n => x1 n 2 (by omega)
      have f0 : ∀ n : QW (fun w' => Below wr.heap.size wr w'), n.w.cell? ⟨g2, k * 3, none⟩ = some (.int .u32 (x.a : Int)) := fun n => x2 n 0 (by omega)
      have f1 : ∀ n : QW (fun w' => Below wr.heap.size wr w'), n.w.cell? ⟨g2, k * 3 + 1, none⟩ = some (.int .u16 (x.e : Int)) := fun n => x2 n 1 (by omega)
      have f2 : ∀ n : QW (fun w' => Below wr.heap.size wr w'), n.w.cell? ⟨g2, k * 3 + 2, none⟩ = some (.int .u16 (x.p : Int)) := fun n => x2 n 2 (by omega)
      clear e1 e2 cw x1 x2
      go_wp2_with fail
      refine region_quietS (fun w' => Below wr.heap.size wr w') (by kernel_rfl) (by kernel_rfl) (below_dr (Below.refl _ _)) (fun hne => ?_)
      repeat (go_big_quiet_step (fail))
      refine wpQuiet_nil ?_
      intro _ hw'
      obtain ⟨⟨wy, S⟩, rfl⟩ := hw'
      clear d0 d1 d2 f0 f1 f2
      have ev : IntKind.i64.wrap ((k : Int) + 1) = ((k + 1 : Nat) : Int) := by have := HL.out; rw [IntKind.wrap_i64]; omega
      go_wp2_with fail
      exact ⟨⟨k + 1, by omega, rfl, below_then HBB.out S⟩, by simp [intOf]; omega⟩
    · obtain rfl : k = l.length := by omega
      have hk0 : ¬ ((l.length : Int) < (l.length : Int)) := by omega
      go_wp2
      go_ret
      exact ⟨rfl, HBB.out⟩
set_option maxHeartbeats 1000000 in
set_option maxRecDepth 100000 in
theorem equalP_same (v1 v2 : Value) (l : List (K × K)) (w : World) (h1 : PairsAt w v1 l) (h2 : PairsAt w v2 l) (hl : l.length ≤ 1000) :
    Calls Tryz.prog 21 #[v1, v2] w fun e w' => e = .returned (.bool true) ∧ Below w.heap.size w w' := by
  obtain ⟨p1, cap1, rfl, h1⟩ := h1
  obtain ⟨p2, cap2, rfl, h2⟩ := h2
  have H1 := Lib.hid h1
  have H2 := Lib.hid h2
  have HL := Lib.hid hl
  clear h1 h2 hl
  go_enter Tryz.func21, Tryz.ntmps21
  go_wp2_with fail
  go_loopw [13] (fun i wr => ∃ k : Nat, k ≤ l.length ∧ i = .int .i64 k ∧ Below w.heap.size w wr) (fun i _ => l.length - (intOf i).toNat)
  case atStart => exact ⟨0, by omega, rfl, Below.refl _ _⟩
  case round =>
    obtain ⟨k, hk, rfl, BB⟩ := hrel
    have HBB := Lib.hid BB
    clear BB
    by_cases hlt : k < l.length
    · have hk1 : (0 : Int) ≤ (k : Int) := by omega
      have hk2 : (k : Int) < (l.length : Int) := by omega
      obtain ⟨g1, rfl, e1⟩ : ∃ g, p1 = some ⟨g, 0, none⟩ ∧ ∀ t u, (pcs l)[t]? = some u → w.cell? ⟨g, t, none⟩ = some u := by
        rcases H1.out with h | h
        · exact absurd hlt (by rw [h]; simp)
        · exact h
      obtain ⟨g2, rfl, e2⟩ : ∃ g, p2 = some ⟨g, 0, none⟩ ∧ ∀ t u, (pcs l)[t]? = some u → w.cell? ⟨g, t, none⟩ = some u := by
        rcases H2.out with h | h
        · exact absurd hlt (by rw [h]; simp)
        · exact h
      have cw : ∀ (g : Nat), (∀ t u, (pcs l)[t]? = some u → w.cell? ⟨g, t, none⟩ = some u) → ∀ n : QW (fun w' => Below wr.heap.size wr w'), ∀ q, q < 6 → n.w.cell? ⟨g, k * 6 + q, none⟩ = (pc (l.getD k pk0.1))[q]? := fun g e n q hq => (((below_then HBB.out n.h).cell (block_lt_of_cell ((pairs_cell e k hlt q hq).trans (List.getElem?_eq_getElem (by rw [pc_len]; exact hq))))).trans (pairs_cell e k hlt q hq))
      have x1 := cw g1 e1
      have x2 := cw g2 e2
      generalize l.getD k pk0.1 = x at *
      have d0 : ∀ n : QW (fun w' => Below wr.heap.size wr w'), n.w.cell? ⟨g1, k * 6, none⟩ = some (.int .u32 (x.1.a : Int)) := fun n => x1 n 0 (by omega)
      have d1 : ∀ n : QW (fun w' => Below wr.heap.size wr w'), n.w.cell? ⟨g1, k * 6 + 1, none⟩ = some (.int .u16 (x.1.e : Int)) := fun n => x1 n 1 (by omega)
      have d2 : ∀ n : QW (fun w' => Below wr.heap.size wr w'), n.w.cell? ⟨g1, k * 6 + 2, none⟩ = some (.int .u16 (x.1.p : Int)) := fun n => x1 n 2 (by omega)
      have d3 : ∀ n : QW (fun w' => Below wr.heap.size wr w'), n.w.cell? ⟨g1, k * 6 + 3, none⟩ = some (.int .u32 (x.2.a : Int)) := fun n => x1 n 3 (by omega)
      have d4 : ∀ n : QW (fun w' => Below wr.heap.size wr w'), n.w.cell? ⟨g1, k * 6 + 4, none⟩ = some (.int .u16 (x.2.e : Int)) := fun n => x1 n 4 (by omega)
      have d5 : ∀ n : QW (fun w' => Below wr.heap.size wr w'), n.w.cell? ⟨g1, k * 6 + 5, none⟩ = some (.int .u16 (x.2.p : Int)) := fun n => x1 n 5 (by omega)
      have f0 : ∀ n : QW (fun w' => Below wr.heap.size wr w'), n.w.cell? ⟨g2, k * 6, none⟩ = some (.int .u32 (x.1.a : Int)) := fun n => x2 n 0 (by omega)
      have f1 : ∀ n : QW (fun w' => Below wr.heap.size wr w'), n.w.cell? ⟨g2, k * 6 + 1, none⟩ = some (.int .u16 (x.1.e : Int)) := fun n => x2 n 1 (by omega)
      have f2 : ∀ n : QW (fun w' => Below wr.heap.size wr w'), n.w.cell? ⟨g2, k * 6 + 2, none⟩ = some (.int .u16 (x.1.p : Int)) := fun n => x2 n 2 (by omega)
      have f3 : ∀ n : QW (fun w' => Below wr.heap.size wr w'), n.w.cell? ⟨g2, k * 6 + 3, none⟩ = some (.int .u32 (x.2.a : Int)) := fun n => x2 n 3 (by omega)
      have f4 : ∀ n : QW (fun w' => Below wr.heap.size wr w'), n.w.cell? ⟨g2, k * 6 + 4, none⟩ = some (.int .u16 (x.2.e : Int)) := fun n => x2 n 4 (by omega)
      have f5 : ∀ n : QW (fun w' => Below wr.heap.size wr w'), n.w.cell? ⟨g2, k * 6 + 5, none⟩ = some (.int .u16 (x.2.p : Int)) := fun n => x2 n 5 (by omega)
      have hq : ∀ n : QW (fun w' => Below wr.heap.size wr w'), (Op.equalIn 10000 49 (.agg #[.int .u32 (x.1.a : Int), .int .u16 (x.1.e : Int), .int .u16 (x.1.p : Int), .int .u32 (x.2.a : Int), .int .u16 (x.2.e : Int), .int .u16 (x.2.p : Int)]) (.agg #[.int .u32 (x.1.a : Int), .int .u16 (x.1.e : Int), .int .u16 (x.1.p : Int), .int .u32 (x.2.a : Int), .int .u16 (x.2.e : Int), .int .u16 (x.2.p : Int)])).run Tryz.prog n.w = .ok true n.w := fun n => by
        have h := eq_pair x x n.w
        rw [decide_eq_true rfl] at h
        exact h
      clear e1 e2 cw x1 x2
      go_wp2_with fail
      refine region_quietS (fun w' => Below wr.heap.size wr w') (by kernel_rfl) (by kernel_rfl) (below_dr (Below.refl _ _)) (fun hne => ?_)
      repeat (go_big_quiet_step (fail))
      refine wpQuiet_nil ?_
      intro _ hw'
      obtain ⟨⟨wy, S⟩, rfl⟩ := hw'
      clear d0 d1 d2 d3 d4 d5 f0 f1 f2 f3 f4 f5 hq
      have ev : IntKind.i64.wrap ((k : Int) + 1) = ((k + 1 : Nat) : Int) := by have := HL.out; rw [IntKind.wrap_i64]; omega
      go_wp2_with fail
      exact ⟨⟨k + 1, by omega, rfl, below_then HBB.out S⟩, by simp [intOf]; omega⟩
    · obtain rfl : k = l.length := by omega
      have hk0 : ¬ ((l.length : Int) < (l.length : Int)) := by omega
      go_wp2
      go_ret
      exact ⟨rfl, HBB.out⟩
end Go.Proofs.YtahagfdjpldblaaGreatDoor

namespace Go.Proofs.YtahagfdjpldblaaGreatDoor
open Go.RowKit Ky
open Go.Maps (Keyed)
set_option linter.unusedVariables false
set_option linter.unusedSimpArgs false

def k1 : K := ⟨1, 0, 0⟩
theorem k1_ok : k1.ok := by unfold K.ok k1; decide
def sp (x : K × Int) : K × K := (sm x.1, k1)
def TurnI (w0 : World) (bl off i n cap : Nat) (l : List (K × Int)) (L : Nat → Bool) (V : Nat → Value) (w : World) : Prop :=
  Below w0.heap.size w0 w ∧ (L 0 = true → V 0 = .slice (some ⟨bl, off, none⟩) n cap) ∧ (L 1 = true → V 1 = .int .i64 (i : Int)) ∧ (L 2 = true → V 2 = .slice (some ⟨bl, off + i * 4, none⟩) (n - i) (cap - i)) ∧
  (L 3 = true → L 7 = false → w.ownsRow w0.heap.size 31 4 (V 3) (n - i) (ms (l.drop i))) ∧ (L 4 = true → V 4 = .slice (some ⟨bl, off, none⟩) n cap) ∧ (L 5 = true → V 5 = .int .i64 (i : Int)) ∧
  (L 6 = true → V 6 = .slice (some ⟨bl, off, none⟩) i cap) ∧ (L 7 = true → w.ownsRow w0.heap.size 31 4 (V 7) n (ms (l.drop i ++ l.take i))) ∧ (L 8 = true → V 8 = .int .i64 (n : Int)) ∧ (L 9 = true → V 9 = .int .i64 0) ∧ (L 7 = true → L 3 = true)

set_option maxHeartbeats 4000000 in
set_option maxRecDepth 100000 in
theorem keyTurns_law (a : Option Addr) (len cap : Nat) (l : List (K × Int)) (kk : Int) (w : World) (hG : Glb5 w) (hl : l.length = len) (hlc : len ≤ cap) (hcm : cap ≤ maxLen) (hok : ∀ x ∈ l, okm x) (hE : ElsAt mc 4 mk0 w a l) (hkk : 0 ≤ kk ∧ kk ≤ 255) :
    Calls Tryz.prog 5 #[.slice a len cap, .int .u8 kk] w fun e w' => e = .returned (.bool true) ∧ Below w.heap.size w w' := by
  have HG := Lib.hid hG
  have HE := Lib.hid hE
  have HOK := Lib.hid hok
  have HCAP := Lib.hid (And.intro hlc hcm)
  have HKK := Lib.hid hkk
  subst hl
  clear hG hE hok hlc hcm hkk
  go_enter Tryz.func5, Tryz.ntmps5
  go_wp2_with fail
  refine (awake5 _ HG.out).mono ?_
  rintro _ w2 ⟨rfl, hb⟩
  have HB2 := Lib.hid hb
  clear hb HG
  have mm : ∀ (t : TypeId) (W : World), (Instr.makeMap t none).run Tryz.prog W = .ok (.map (some W.heap.size)) (W.alloc (.map #[] 0)) := fun _ _ => rfl
  by_cases hlen : 40 < l.length
  · have h1 : (40 : Int) < (l.length : Int) := by omega
    go_wp2_with fail
    go_ret
    exact ⟨rfl, HB2.out⟩
  · have h1 : ¬ (40 : Int) < (l.length : Int) := by omega
    have HL := Lib.hid hlen
    clear hlen
    by_cases hl0 : l.length = 0
    · have h2 : ((l.length : Int) == 0) = true := by rw [beq_iff_eq]; omega
      clear hl0
      go_wp2_with fail
      go_ret
      exact ⟨rfl, HB2.out⟩
    · have h2 : ((l.length : Int) == 0) = false := by rw [beq_eq_false_iff_ne]; omega
      have h3 : ¬ ((l.length : Int) = 0) := by omega
      have HPOS := Lib.hid (Nat.pos_of_ne_zero hl0)
      clear hl0
      obtain ⟨i, hi⟩ : ∃ i : Nat, (i : Int) = kk % (l.length : Int) := ⟨(kk % (l.length : Int)).toNat, Int.toNat_of_nonneg (Int.emod_nonneg _ h3)⟩
      have hil : i < l.length := by
        have := Int.emod_lt_of_pos kk (b := (l.length : Int)) (by have := HPOS.out; omega)
        omega
      have ht : Int.tmod kk (l.length : Int) = (i : Int) := by rw [hi, Int.tmod_eq_emod_of_nonneg HKK.out.1]
      have ew : IntKind.i64.wrap kk = kk := by have := HKK.out; rw [IntKind.wrap_i64]; omega
      have ew2 : IntKind.i64.wrap (i : Int) = (i : Int) := by have := HL.out; rw [IntKind.wrap_i64]; omega
      have HIL := Lib.hid hil
      clear hil hi
      obtain ⟨bl, off, rfl, hcells⟩ : ∃ bl off, a = some ⟨bl, off, none⟩ ∧ ∀ i, i < l.length → w.rangeAt bl (off + i * 4) (mc (l.getD i mk0)) := by
        rcases HE.out with h | h
        · exact absurd HPOS.out (by rw [h]; simp)
        · exact h
      have HCE := Lib.hid hcells
      clear hcells HE
      go_wp2_with fail
      have e1 : (w2.alloc (.map #[] 0)).heap.size = w2.heap.size + 1 := by simp
      have e2 : ((w2.alloc (.map #[] 0)).alloc (.map #[] 0)).heap.size = w2.heap.size + 1 + 1 := by simp
      have e3 : (((w2.alloc (.map #[] 0)).alloc (.map #[] 0)).alloc (.map #[] 0)).heap.size = w2.heap.size + 1 + 1 + 1 := by simp
      have B1 := below_alloc (Below.refl _ (w2.alloc (.map #[] 0))) (.map #[] 0)
      have B2 := below_alloc (Below.refl _ ((w2.alloc (.map #[] 0)).alloc (.map #[] 0))) (.map #[] 0)
      have B3 := below_alloc (Below.refl _ (((w2.alloc (.map #[] 0)).alloc (.map #[] 0)).alloc (.map #[] 0))) (.map #[] 0)
      have hA := (((MapIs.new w2 Tryz.prog 29 K.val wval).below B1).below B2).below B3
      have hB := MapIs.new (w2.alloc (.map #[] 0)) Tryz.prog 29 K.val wval
      rw [e1] at hB
      have hB := (hB.below B2).below B3
      have hC := MapIs.new ((w2.alloc (.map #[] 0)).alloc (.map #[] 0)) Tryz.prog 49 pval lval
      rw [e2] at hC
      have hC := hC.below B3
      have hD := MapIs.new (((w2.alloc (.map #[] 0)).alloc (.map #[] 0)).alloc (.map #[] 0)) Tryz.prog 49 pval lval
      rw [e3] at hD
      have HB3 := Lib.hid (below_alloc (below_alloc (below_alloc (below_alloc HB2.out (.map #[] 0)) (.map #[] 0)) (.map #[] 0)) (.map #[] 0))
      obtain ⟨bd, hbd⟩ : ∃ b, b = w2.heap.size + 1 + 1 + 1 := ⟨_, rfl⟩
      obtain ⟨bc, hbc⟩ : ∃ b, b = w2.heap.size + 1 + 1 := ⟨_, rfl⟩
      obtain ⟨bb, hbb⟩ : ∃ b, b = w2.heap.size + 1 := ⟨_, rfl⟩
      obtain ⟨ba, hba⟩ : ∃ b, b = w2.heap.size := ⟨_, rfl⟩
      have hw2 := HB2.out.size
      have HNE : Hid (w.heap.size ≤ ba ∧ bb = ba + 1 ∧ bc = ba + 2 ∧ bd = ba + 3) := Lib.hid ⟨by omega, by omega, by omega, by omega⟩
      rw [← hbd] at hD
      rw [← hbc] at hC
      rw [← hbb] at hB
      rw [← hba] at hA
      rw [← hbd, ← hbc, ← hbb, ← hba]
      clear hbd hbc hbb hba e1 e2 e3 B1 B2 B3 HB2 hw2 mm
      generalize (((w2.alloc (.map #[] 0)).alloc (.map #[] 0)).alloc (.map #[] 0)).alloc (.map #[] 0) = w3 at *
      have HA := Lib.hid hA
      have HBM := Lib.hid hB
      have HC := Lib.hid hC
      have HD := Lib.hid hD
      clear hA hB hC hD h1 h2 h3
      obtain ⟨R, hR⟩ : ∃ R : World → Prop, R = fun w' => MapIs w' Tryz.prog 29 K.val wval bb 0 (fun _ => none) ∧ MapIs w' Tryz.prog 49 pval lval bd 0 (fun _ => none) := ⟨_, rfl⟩
      have HRD := Lib.hid hR
      have RB : Hid (∀ u v : World, R u → Below u.heap.size u v → R v) := Lib.hid fun u v h hb => by rw [HRD.out] at h ⊢; exact ⟨h.1.below hb, h.2.below hb⟩
      have RG1 : Hid (∀ u v : World, R u → u.grownBy v (some ba) → R v) := Lib.hid fun u v h hb => by rw [HRD.out] at h ⊢; have := HNE.out; exact ⟨h.1.grown hb (by omega), h.2.grown hb (by omega)⟩
      have RG2 : Hid (∀ u v : World, R u → u.grownBy v (some bc) → R v) := Lib.hid fun u v h hb => by rw [HRD.out] at h ⊢; have := HNE.out; exact ⟨h.1.grown hb (by omega), h.2.grown hb (by omega)⟩
      have HR3 : Hid (R w3) := Lib.hid (by rw [HRD.out]; exact ⟨HBM.out, HD.out⟩)
      clear hR
      go_loopw [37] (fun iv wr => ∃ k : Nat, k ≤ l.length ∧ iv = .int .i64 k ∧ MapIs wr Tryz.prog 29 K.val wval ba k (sG ((l.map sms).take k)) ∧ MapIs wr Tryz.prog 49 pval lval bc k (cG ((l.map sp).take k)) ∧ Below w.heap.size w wr ∧ R wr) (fun iv _ => l.length - (intOf iv).toNat)
      case atStart => exact ⟨0, by omega, rfl, by rw [List.take_zero, sG_nil]; exact HA.out, by rw [List.take_zero, cG_nil]; exact HC.out, HB3.out, HR3.out⟩
      case round =>
        obtain ⟨k, hk, rfl, hms, hml, BB, hr⟩ := hrel
        have HMS := Lib.hid hms
        have HML := Lib.hid hml
        have HBB := Lib.hid BB
        have HR := Lib.hid hr
        clear hms hml BB hr HA HBM HC HD HR3 HB3
        by_cases hlt : k < l.length
        · have HNEs := HNE
          have HNE : Hid (ba ≠ bc) := Lib.hid (by have := HNEs.out; omega)
          have HW1 : Hid (w.heap.size ≤ ba) := Lib.hid HNEs.out.1
          have HW2 : Hid (w.heap.size ≤ bc) := Lib.hid (by have := HNEs.out; omega)
          clear HNEs
          have hk1 : (0 : Int) ≤ (k : Int) := by omega
          have hk2 : (k : Int) < (l.length : Int) := by omega
          have hx := HCE.out k hlt
          have hox := HOK.out _ (getD_mem (d := mk0) hlt)
          generalize hgx : l.getD k mk0 = x at *
          have RX : wr.rangeAt bl (off + k * 4) (mc x) := range_below hx HBB.out
          clear hx
          have c0 : wr.cell? ⟨bl, off + k * 4, none⟩ = some (.int .u32 (x.1.a : Int)) := RX 0 _ rfl
          have c1 : wr.cell? ⟨bl, off + k * 4 + 1, none⟩ = some (.int .u16 (x.1.e : Int)) := RX 1 _ rfl
          have c2 : wr.cell? ⟨bl, off + k * 4 + 2, none⟩ = some (.int .u16 (x.1.p : Int)) := RX 2 _ rfl
          have c3 : wr.cell? ⟨bl, off + k * 4 + 3, none⟩ = some (.int .i64 x.2) := RX 3 _ rfl
          have HX := Lib.hid hgx
          clear hgx RX
          go_wp2_with fail
          obtain ⟨g11, hg11⟩ : ∃ g, g = wr.heap.size := ⟨_, rfl⟩
          have hBx := below_alloc (Below.refl _ wr) (.cells #[.int .u32 (x.1.a : Int), .int .u16 (x.1.e : Int), .int .u16 (x.1.p : Int), .int .i64 x.2] 31)
          have Rg := Row.new wr #[.int .u32 (x.1.a : Int), .int .u16 (x.1.e : Int), .int .u16 (x.1.p : Int), .int .i64 x.2] 31
          have hb1 : ba < g11 := by rw [hg11]; exact HMS.out.lt
          have hb2 : bc < g11 := by rw [hg11]; exact HML.out.lt
          rw [← hg11] at Rg ⊢
          have HMS1 := Lib.hid (HMS.out.below hBx)
          have HML1 := Lib.hid (HML.out.below hBx)
          have HBB1 := Lib.hid (below_then HBB.out hBx)
          have HR1 := Lib.hid (RB.out _ _ HR.out hBx)
          clear hBx hg11 HMS HML HBB HR c0 c1 c2 c3
          generalize wr.alloc (.cells #[.int .u32 (x.1.a : Int), .int .u16 (x.1.e : Int), .int .u16 (x.1.p : Int), .int .i64 x.2] 31) = wz at *
          have hblk : ∀ w', wz.grownBy w' (some ba) → Row w' g11 #[.int .u32 (x.1.a : Int), .int .u16 (x.1.e : Int), .int .u16 (x.1.p : Int), .int .i64 x.2] 31 := fun w' h => (h.block g11 Rg.lt (by intro e; injection e with e; omega)).trans Rg
          have LX1 : ∀ w', wz.grownBy w' (some ba) → w'.rangeAt g11 0 [.int .u32 (x.1.a : Int), .int .u16 (x.1.e : Int), .int .u16 (x.1.p : Int)] := fun w' h j v hv => by
            rw [Nat.zero_add, (hblk w' h).cell j]
            rcases j with _ | _ | _ | j
            · exact hv
            · exact hv
            · exact hv
            · simp at hv
          have LK : ∀ w', wz.grownBy w' (some ba) → MapIs w' Tryz.prog 29 K.val wval ba k (sG ((l.map sms).take k)) → Calls Tryz.prog 7 #[.map (some ba), .agg #[.int .u32 ((sm x.1).a : Int), .int .u16 ((sm x.1).e : Int), .int .u16 ((sm x.1).p : Int)], .int .i64 x.2] w' fun e w'' => e = .returned (.tuple #[]) ∧ wz.grownBy w'' (some ba) ∧ MapIs w'' Tryz.prog 29 K.val wval ba (k + 1) (sG ((l.map sms).take (k + 1))) := fun w' h1 h2 => by
            have hlen := HL.out
            refine (sumsAdd_any ba k _ (sm x.1) (sm_ok _) x.2 hox.2 (by omega) w' h2).mono ?_
            rintro _ wy ⟨rfl, hm, hg⟩
            refine ⟨rfl, h1.trans hg, ?_⟩
            have e := sG_step ((l.map sms).take k) (sms x)
            rw [sG_get] at hm
            rw [show (l.map sms).take (k + 1) = (l.map sms).take k ++ [sms x] by rw [← HX.out]; exact map_take_succ' l sms mk0 k hlt, ← e]
            exact hm
          refine region_lits1 (n := 7) 6 1 (by kernel_rfl) (fun c' w' => wz.grownBy w' (some ba) ∧ MapIs w' Tryz.prog 29 K.val wval ba (if c' then k + 1 else k) (sG ((l.map sms).take (if c' then k + 1 else k)))) (fun i => (#[.map (some ba), .pointer (some ⟨g11, 0, none⟩), .agg #[.int .u32 (x.1.a : Int), .int .u16 (x.1.e : Int), .int .u16 (x.1.p : Int)], .agg #[.int .u32 ((sm x.1).a : Int), .int .u16 ((sm x.1).e : Int), .int .u16 ((sm x.1).p : Int)], .pointer (some ⟨g11, 3, none⟩), .int .i64 x.2, .tuple #[]] : Array Value).getD i undef) (by kernel_rfl) (by kernel_rfl) ⟨⟨rfl, rfl, rfl, Nat.le_refl _, fun _ _ _ => rfl⟩, HMS1.out⟩ rfl ?_
          intro F hF
          simp only [fill, if_true, dstAt] at hF
          simp [Act.put] at hF
          subst hF
          refine ⟨?_, ?_⟩
          · intro i o ho c wx hcm S
            rcases i with _ | _ | _ | _ | _ | _ | _ | i
            all_goals (first | (simp at ho; done) | (obtain rfl := Option.some.inj ho))
            · exact yv_val rfl S (by go_simp)
            · exact yv_val rfl S (by go_simp)
            · exact yv_load rfl S _ _ rfl g11 0 rfl (LX1 _ S.1) Tryz.underlying29 rfl (by kernel_rfl)
            · exact yv_call rfl rfl Tryz.func8 (by kernel_rfl) rfl #[.agg #[.int .u32 (x.1.a : Int), .int .u16 (x.1.e : Int), .int .u16 (x.1.p : Int)]] (by go_simp) ((small_any x.1 hox.1 wx).mono (by rintro _ wy ⟨rfl, hb⟩; exact ⟨rfl, S.1.trans (grown_below hb), S.2.below hb⟩))
            · exact yv_val rfl S (by go_simp)
            · have d3 : wx.cell? ⟨g11, 3, none⟩ = some (.int .i64 x.2) := (hblk wx S.1).cell 3
              exact yv_val rfl S (by go_simp)
            · obtain rfl : c = false := hcm (by kernel_rfl)
              exact yv_call rfl rfl Tryz.func7 (by kernel_rfl) rfl #[.map (some ba), .agg #[.int .u32 ((sm x.1).a : Int), .int .u16 ((sm x.1).e : Int), .int .u16 ((sm x.1).p : Int)], .int .i64 x.2] (by go_simp) (LK wx S.1 S.2)
          · intro wy S
            simp only [if_true] at S
            have Ry := hblk wy S.1
            have d0 : wy.cell? ⟨g11, 0, none⟩ = some (.int .u32 (x.1.a : Int)) := Ry.cell 0
            have d1 : wy.cell? ⟨g11, 1, none⟩ = some (.int .u16 (x.1.e : Int)) := Ry.cell 1
            have d2 : wy.cell? ⟨g11, 2, none⟩ = some (.int .u16 (x.1.p : Int)) := Ry.cell 2
            have HMS2 := Lib.hid S.2
            have HML2 := Lib.hid (HML1.out.grown S.1 (Ne.symm HNE.out))
            have HBB2 := Lib.hid (below_grown HBB1.out HW1.out S.1)
            have HR2 := Lib.hid (RG1.out _ _ HR1.out S.1)
            have ev : IntKind.i64.wrap ((k : Int) + 1) = ((k + 1 : Nat) : Int) := by have := HL.out; rw [IntKind.wrap_i64]; omega
            clear S Ry LX1 LK hblk Rg HMS1 HML1 HBB1 HR1
            go_wp2_with fail
            refine (small_any x.1 hox.1 wy).mono ?_
            rintro _ w5 ⟨rfl, hb5⟩
            clear d0 d1 d2
            have HMS3 := Lib.hid (HMS2.out.below hb5)
            have HML3 := Lib.hid (HML2.out.below hb5)
            have HBB3 := Lib.hid (below_then HBB2.out hb5)
            have HR3 := Lib.hid (RB.out _ _ HR2.out hb5)
            clear hb5 HMS2 HML2 HBB2 HR2
            unfold K.val
            go_wp2_with fail
            have hcnt : cnt ((l.map sp).take k) (sp x) ≤ k := Nat.le_trans (cnt_le _ _) (by simp; omega)
            have hlen := HL.out
            refine (link_any bc k _ (sm x.1) k1 (sm_ok _) k1_ok (cnt ((l.map sp).take k) (sp x)) (cG_get _ _) (by omega) (by omega) w5 HML3.out).mono ?_
            rintro _ w6 ⟨rfl, hm, hg⟩
            have HMS4 := Lib.hid (HMS3.out.grown hg HNE.out)
            have HBB4 := Lib.hid (below_grown HBB3.out HW2.out hg)
            have HR4 := Lib.hid (RG2.out _ _ HR3.out hg)
            have HML4 : Hid (MapIs w6 Tryz.prog 49 pval lval bc (k + 1) (cG ((l.map sp).take (k + 1)))) := Lib.hid (by
              have e := cG_step ((l.map sp).take k) (sp x)
              rw [show (l.map sp).take (k + 1) = (l.map sp).take k ++ [sp x] by rw [← HX.out]; exact map_take_succ' l sp mk0 k hlt, ← e]
              exact hm)
            clear hm hg hcnt HMS3 HML3 HBB3 HR3
            go_wp2_with fail
            exact ⟨⟨k + 1, by omega, rfl, HMS4.out, HML4.out, HBB4.out, HR4.out⟩, by simp [intOf]; omega⟩
        · obtain rfl : k = l.length := by omega
          have hk0 : ¬ ((l.length : Int) < (l.length : Int)) := by omega
          have hms := HMS.out
          have hml := HML.out
          rw [show (l.map sms).take l.length = l.map sms by rw [List.take_of_length_le (by simp)]] at hms
          rw [show (l.map sp).take l.length = l.map sp by rw [List.take_of_length_le (by simp)]] at hml
          have hr := HR.out
          rw [HRD.out] at hr
          have HMA := Lib.hid hms
          have HMC := Lib.hid hml
          have HMBD := Lib.hid hr
          clear hms hml hr HMS HML HR RB RG1 RG2 HRD
          have CD : Hid (∀ W, Below w.heap.size w W → ∀ j u, (ms (l.drop i))[j]? = some u → W.cell? ⟨bl, off + i * 4 + j, none⟩ = some u) := Lib.hid fun W hb => ms_cells fun q hq => by
            have h1 := HCE.out (i + q) (by rw [List.length_drop] at hq; omega)
            have e : (l.drop i).getD q mk0 = l.getD (i + q) mk0 := by rw [List.getD_eq_getElem?_getD, List.getElem?_drop, List.getD_eq_getElem?_getD]
            rw [e, show off + i * 4 + q * 4 = off + (i + q) * 4 by omega]
            exact range_below h1 hb
          have CT : Hid (∀ W, Below w.heap.size w W → ∀ j u, (ms (l.take i))[j]? = some u → W.cell? ⟨bl, off + j, none⟩ = some u) := Lib.hid fun W hb => ms_cells fun q hq => by
            have hq2 : q < i := by rw [List.length_take] at hq; omega
            have h1 := HCE.out q (by have := HIL.out; omega)
            have e : (l.take i).getD q mk0 = l.getD q mk0 := by rw [List.getD_eq_getElem?_getD, List.getElem?_take, if_pos hq2, List.getD_eq_getElem?_getD]
            rw [e]
            exact range_below h1 hb
          have hi1 : (0 : Int) ≤ (i : Int) := by omega
          have hi2 : (i : Int) ≤ (l.length : Int) := by have := HIL.out; omega
          have hi3 : (i : Int) ≤ (cap : Int) := by have := HIL.out; have := HCAP.out; omega
          have hi4 : (l.length : Int) ≤ (cap : Int) := by have := HCAP.out; omega
          have hn4 : ¬ (cap = i) := by have := HIL.out; have := HCAP.out; omega
          have hn1 : i ≤ l.length := by omega
          have hn2 : i ≤ cap := by omega
          have hn3 : l.length ≤ cap := by omega
          go_wp2_with fail
          refine region_inv (n := 10) (by kernel_rfl) (TurnI wr bl off i l.length cap l) (by kernel_rfl) ?_ ?_ rfl ?_
          · refine ⟨below_dr (Below.refl _ _), ?_, ?_, ?_, ?_, ?_, ?_, ?_, ?_, ?_, ?_, ?_⟩ <;> (intro h; simp at h)
          · intro ii o ho
            rcases ii with _ | _ | _ | _ | _ | _ | _ | _ | _ | _ | ii
            all_goals (first | (simp at ho; done) | (obtain rfl := Option.some.inj ho))
            all_goals (rintro L V wx hL hpre ⟨J, K0, K1, K2, K3, K4, K5, K6, K7, K8, K9, A7⟩ a hdef hev hold)
            · have X0 : a.tmps[0]?.getD undef = .slice (some ⟨bl, off, none⟩) l.length cap := by
                have h := hold 0 (by simp) (by intro j hj; rcases j with _ | _ | _ | _ | _ | _ | _ | _ | _ | _ | j <;> simp [dstAt])
                simpa [go_sem] using h
              exact st_val ho rfl (v := .slice (some ⟨bl, off, none⟩) l.length cap) (by go_simp) ⟨J, by simp [updV], by simpa [Upd, updV] using K1, by simpa [Upd, updV] using K2, by simpa [Upd, updV] using K3, by simpa [Upd, updV] using K4, by simpa [Upd, updV] using K5, by simpa [Upd, updV] using K6, by simpa [Upd, updV] using K7, by simpa [Upd, updV] using K8, by simpa [Upd, updV] using K9, by simpa [Upd, updV] using A7⟩
            · have X5 : a.tmps[5]?.getD undef = .int .i64 (i : Int) := by
                have h := hold 5 (by simp) (by intro j hj; rcases j with _ | _ | _ | _ | _ | _ | _ | _ | _ | _ | j <;> simp [dstAt])
                simpa [go_sem] using h
              exact st_val ho rfl (v := .int .i64 (i : Int)) (by go_simp) ⟨J, by simpa [Upd, updV] using K0, by simp [updV], by simpa [Upd, updV] using K2, by simpa [Upd, updV] using K3, by simpa [Upd, updV] using K4, by simpa [Upd, updV] using K5, by simpa [Upd, updV] using K6, by simpa [Upd, updV] using K7, by simpa [Upd, updV] using K8, by simpa [Upd, updV] using K9, by simpa [Upd, updV] using A7⟩
            · have p0 := hpre 0 (by decide)
              have e0 : a.tmps[55]?.getD undef = .slice (some ⟨bl, off, none⟩) l.length cap := by simpa [go_sem] using (hev 0 55 p0 rfl (by simp) (by simp)).trans (K0 p0)
              have p1 := hpre 1 (by decide)
              have e1 : a.tmps[56]?.getD undef = .int .i64 (i : Int) := by simpa [go_sem] using (hev 1 56 p1 rfl (by simp) (by simp)).trans (K1 p1)
              exact st_val ho rfl (v := .slice (some ⟨bl, off + i * 4, none⟩) (l.length - i) (cap - i)) (by go_simp) ⟨J, by simpa [Upd, updV] using K0, by simpa [Upd, updV] using K1, by simp [updV], by simpa [Upd, updV] using K3, by simpa [Upd, updV] using K4, by simpa [Upd, updV] using K5, by simpa [Upd, updV] using K6, by simpa [Upd, updV] using K7, by simpa [Upd, updV] using K8, by simpa [Upd, updV] using K9, by simpa [Upd, updV] using A7⟩
            · have p2 := hpre 2 (by decide)
              have e2 := (hev 2 57 p2 rfl (by simp) (by simp)).trans (K2 p2)
              have n7 : L 7 = false := by cases h : L 7 with | false => rfl | true => rw [A7 h] at hL; cases hL
              refine st_call ho rfl rfl Tryz.func19 (by kernel_rfl) rfl #[.slice (some ⟨bl, off + i * 4, none⟩) (l.length - i) (cap - i)] (by simp [e2]) ((clone_mores bl (off + i * 4) (l.length - i) (cap - i) (l.drop i) wx (CD.out wx (below_then HBB.out J)) (by rw [List.length_drop]) (by have := HL.out; omega)).mono ?_)
              rintro _ wy ⟨v, rfl, ho3, hb⟩
              exact ⟨_, rfl, below_then J hb, by simpa [Upd, updV] using K0, by simpa [Upd, updV] using K1, by simpa [Upd, updV] using K2, fun _ _ => by simpa [updV] using own_mono4 ho3 J.size, by simpa [Upd, updV] using K4, by simpa [Upd, updV] using K5, by simpa [Upd, updV] using K6, fun h => (by simp [Upd, n7] at h), by simpa [Upd, updV] using K8, by simpa [Upd, updV] using K9, fun h => by simp [Upd]⟩
            · have X0 : a.tmps[0]?.getD undef = .slice (some ⟨bl, off, none⟩) l.length cap := by
                have h := hold 0 (by simp) (by intro j hj; rcases j with _ | _ | _ | _ | _ | _ | _ | _ | _ | _ | j <;> simp [dstAt])
                simpa [go_sem] using h
              exact st_val ho rfl (v := .slice (some ⟨bl, off, none⟩) l.length cap) (by go_simp) ⟨J, by simpa [Upd, updV] using K0, by simpa [Upd, updV] using K1, by simpa [Upd, updV] using K2, by simpa [Upd, updV] using K3, by simp [updV], by simpa [Upd, updV] using K5, by simpa [Upd, updV] using K6, by simpa [Upd, updV] using K7, by simpa [Upd, updV] using K8, by simpa [Upd, updV] using K9, by simpa [Upd, updV] using A7⟩
            · have X5 : a.tmps[5]?.getD undef = .int .i64 (i : Int) := by
                have h := hold 5 (by simp) (by intro j hj; rcases j with _ | _ | _ | _ | _ | _ | _ | _ | _ | _ | j <;> simp [dstAt])
                simpa [go_sem] using h
              exact st_val ho rfl (v := .int .i64 (i : Int)) (by go_simp) ⟨J, by simpa [Upd, updV] using K0, by simpa [Upd, updV] using K1, by simpa [Upd, updV] using K2, by simpa [Upd, updV] using K3, by simpa [Upd, updV] using K4, by simp [updV], by simpa [Upd, updV] using K6, by simpa [Upd, updV] using K7, by simpa [Upd, updV] using K8, by simpa [Upd, updV] using K9, by simpa [Upd, updV] using A7⟩
            · have p4 := hpre 4 (by decide)
              have e4 : a.tmps[59]?.getD undef = .slice (some ⟨bl, off, none⟩) l.length cap := by simpa [go_sem] using (hev 4 59 p4 rfl (by simp) (by simp)).trans (K4 p4)
              have p5 := hpre 5 (by decide)
              have e5 : a.tmps[60]?.getD undef = .int .i64 (i : Int) := by simpa [go_sem] using (hev 5 60 p5 rfl (by simp) (by simp)).trans (K5 p5)
              exact st_val ho rfl (v := .slice (some ⟨bl, off, none⟩) i cap) (by go_simp) ⟨J, by simpa [Upd, updV] using K0, by simpa [Upd, updV] using K1, by simpa [Upd, updV] using K2, by simpa [Upd, updV] using K3, by simpa [Upd, updV] using K4, by simpa [Upd, updV] using K5, by simp [updV], by simpa [Upd, updV] using K7, by simpa [Upd, updV] using K8, by simpa [Upd, updV] using K9, by simpa [Upd, updV] using A7⟩
            · have p3 := hpre 3 (by decide)
              have e3 := hev 3 58 p3 rfl (by simp) (by simp)
              have p6 := hpre 6 (by decide)
              have e6 := (hev 6 61 p6 rfl (by simp) (by simp)).trans (K6 p6)
              obtain ⟨v', w', hr, ho7, hb⟩ := append_mores wx wr.heap.size _ (V 3) (l.length - i) (l.drop i) (K3 p3 hL) bl off i cap (l.take i) (by rw [List.length_take]; omega) (CT.out wx (below_then HBB.out J)) (by have := HL.out; omega) J.size
              rw [show l.length - i + i = l.length by omega] at ho7
              exact st_val ho rfl (v := v') (w1 := w') (run_append_op _ _ _ _ rfl e3 e6 hr) ⟨J.trans hb, by simpa [Upd, updV] using K0, by simpa [Upd, updV] using K1, by simpa [Upd, updV] using K2, fun _ h => by simp [Upd] at h, by simpa [Upd, updV] using K4, by simpa [Upd, updV] using K5, by simpa [Upd, updV] using K6, fun _ => by simpa [updV] using ho7, by simpa [Upd, updV] using K8, by simpa [Upd, updV] using K9, fun _ => by simp [Upd, p3]⟩
            · have p7 := hpre 7 (by decide)
              obtain ⟨_, g, cap7, ev7, _, _, _⟩ := els_of_own (K7 p7) HPOS.out
              have e7 : a.tmps[62]?.getD undef = .slice (some ⟨g, 0, none⟩) l.length cap7 := by simpa [go_sem] using (hev 7 62 p7 rfl (by simp) (by simp)).trans ev7
              exact st_val ho rfl (v := .int .i64 (l.length : Int)) (by go_simp) ⟨J, by simpa [Upd, updV] using K0, by simpa [Upd, updV] using K1, by simpa [Upd, updV] using K2, by simpa [Upd, updV] using K3, by simpa [Upd, updV] using K4, by simpa [Upd, updV] using K5, by simpa [Upd, updV] using K6, by simpa [Upd, updV] using K7, by simp [updV], by simpa [Upd, updV] using K9, by simpa [Upd, updV] using A7⟩
            · exact st_val ho rfl (v := .int .i64 0) (by go_simp) ⟨J, by simpa [Upd, updV] using K0, by simpa [Upd, updV] using K1, by simpa [Upd, updV] using K2, by simpa [Upd, updV] using K3, by simpa [Upd, updV] using K4, by simpa [Upd, updV] using K5, by simpa [Upd, updV] using K6, by simpa [Upd, updV] using K7, by simpa [Upd, updV] using K8, by simp [updV], by simpa [Upd, updV] using A7⟩
          · rintro V wx ⟨J, K0, K1, K2, K3, K4, K5, K6, K7, K8, K9, A7⟩
            have v0 := K0 rfl
            have v1 := K1 rfl
            have v2 := K2 rfl
            have v4 := K4 rfl
            have v5 := K5 rfl
            have v6 := K6 rfl
            have v8 := K8 rfl
            have v9 := K9 rfl
            have o7 := K7 rfl
            obtain ⟨hl7, g, cap7, e7, hg, hglt, hels⟩ := els_of_own o7 HPOS.out
            clear K0 K1 K2 K3 K4 K5 K6 K7 K8 K9 o7
            clear A7 CD CT
            simp only [fill, if_true, dstAt, v0, v1, v2, v4, v5, v6, e7, v8, v9]
            simp [Act.put]
            clear v0 v1 v2 v4 v5 v6 v8 v9 e7
            generalize V 3 = u58
            clear V
            have HNEs := HNE.out
            have HMA2 := HMA.out.below J
            have HMC2 := HMC.out.below J
            have HMB2 := HMBD.out.1.below J
            have HMD2 := HMBD.out.2.below J
            have hwb := HMBD.out.2.lt
            have HBB4 := Lib.hid (below_then HBB.out J)
            have hperm := rot_perm l i
            obtain ⟨rt, hrt⟩ : ∃ rt, rt = l.drop i ++ l.take i := ⟨_, rfl⟩
            rw [← hrt] at hels hl7 hperm
            have HRT := Lib.hid hl7
            have HPM := Lib.hid hperm
            have HOK2 : Hid (∀ x ∈ rt, okm x) := Lib.hid fun x hx => HOK.out x (hperm.mem_iff.1 hx)
            have hgw : w.heap.size ≤ g := by have := HBB.out.size; omega
            have hgne : g ≠ bb ∧ g ≠ bd := by omega
            obtain ⟨R, hR⟩ : ∃ R : World → Prop, R = fun w' => MapIs w' Tryz.prog 29 K.val wval ba l.length (sG (l.map sms)) ∧ MapIs w' Tryz.prog 49 pval lval bc l.length (cG (l.map sp)) ∧ g < w'.heap.size ∧ ElsAt mc 4 mk0 w' (some ⟨g, 0, none⟩) rt := ⟨_, rfl⟩
            have HRD := Lib.hid hR
            have RB : Hid (∀ u v : World, R u → Below u.heap.size u v → R v) := Lib.hid fun u v h hb => by rw [HRD.out] at h ⊢; exact ⟨h.1.below hb, h.2.1.below hb, Nat.lt_of_lt_of_le h.2.2.1 hb.size, h.2.2.2.below hb⟩
            have RG1 : Hid (∀ u v : World, R u → u.grownBy v (some bb) → R v) := Lib.hid fun u v h hb => by rw [HRD.out] at h ⊢; exact ⟨h.1.grown hb (by omega), h.2.1.grown hb (by omega), Nat.lt_of_lt_of_le h.2.2.1 hb.size, h.2.2.2.grown h.2.2.1 hb hgne.1⟩
            have RG2 : Hid (∀ u v : World, R u → u.grownBy v (some bd) → R v) := Lib.hid fun u v h hb => by rw [HRD.out] at h ⊢; exact ⟨h.1.grown hb (by omega), h.2.1.grown hb (by omega), Nat.lt_of_lt_of_le h.2.2.1 hb.size, h.2.2.2.grown h.2.2.1 hb hgne.2⟩
            have HR3 : Hid (R wx) := Lib.hid (by rw [HRD.out]; exact ⟨HMA2, HMC2, hglt, hels⟩)
            have HMB3 := Lib.hid HMB2
            have HMD3 := Lib.hid HMD2
            have hrl : l.length = rt.length := hl7.symm
            rw [hrl]
            have HLL := HL
            have HL : Hid (¬ 40 < rt.length) := Lib.hid (by rw [← hrl]; exact HLL.out)
            have HRL := Lib.hid hrl
            clear hR hels hperm HMA2 HMC2 HMB2 HMD2 hwb hg hglt hgne J hl7 HBB HMA HMC HMBD HNEs hk0 hi1 hi2 hi3 hi4 hn1 hn2 hn3 hn4 hrl hrt
            have hk3 : (0 : Int) ≤ (rt.length : Int) := by omega
            go_wp2_with fail
            go_loopw [64] (fun iv wr => ∃ k : Nat, k ≤ rt.length ∧ iv = .int .i64 k ∧ MapIs wr Tryz.prog 29 K.val wval bb k (sG ((rt.map sms).take k)) ∧ MapIs wr Tryz.prog 49 pval lval bd k (cG ((rt.map sp).take k)) ∧ Below w.heap.size w wr ∧ R wr) (fun iv _ => rt.length - (intOf iv).toNat)
            case atStart => exact ⟨0, by omega, rfl, by rw [List.take_zero, sG_nil]; exact HMB3.out, by rw [List.take_zero, cG_nil]; exact HMD3.out, HBB4.out, HR3.out⟩
            case round =>
              obtain ⟨k, hk, rfl, hms, hml, BB, hr⟩ := hrel
              have HMS := Lib.hid hms
              have HML := Lib.hid hml
              have HBB := Lib.hid BB
              have HR := Lib.hid hr
              clear hms hml BB hr HMB3 HMD3 HBB4 HR3
              by_cases hlt : k < rt.length
              · have HNEs := HNE
                have HNE : Hid (bb ≠ bd) := Lib.hid (by have := HNEs.out; omega)
                have HW1 : Hid (w.heap.size ≤ bb) := Lib.hid (by have := HNEs.out; omega)
                have HW2 : Hid (w.heap.size ≤ bd) := Lib.hid (by have := HNEs.out; omega)
                clear HNEs
                have hk1 : (0 : Int) ≤ (k : Int) := by omega
                have hk2 : (k : Int) < (rt.length : Int) := by omega
                have hels := HR.out
                rw [HRD.out] at hels
                have hels := hels.2.2.2
                obtain ⟨hx⟩ : Nonempty (wr.rangeAt g (k * 4) (mc (rt.getD k mk0))) := by
                  rcases hels with h | ⟨b', off', e, h⟩
                  · exact absurd hlt (by rw [h]; simp)
                  · injection e with e
                    injection e with e1 e2
                    have h1 := h k hlt
                    rw [← e1, ← e2, Nat.zero_add] at h1
                    exact ⟨h1⟩
                have hox := HOK2.out _ (getD_mem (d := mk0) hlt)
                generalize hgx : rt.getD k mk0 = x at *
                have RX := hx
                clear hx hels
                have c0 : wr.cell? ⟨g, k * 4, none⟩ = some (.int .u32 (x.1.a : Int)) := RX 0 _ rfl
                have c1 : wr.cell? ⟨g, k * 4 + 1, none⟩ = some (.int .u16 (x.1.e : Int)) := RX 1 _ rfl
                have c2 : wr.cell? ⟨g, k * 4 + 2, none⟩ = some (.int .u16 (x.1.p : Int)) := RX 2 _ rfl
                have c3 : wr.cell? ⟨g, k * 4 + 3, none⟩ = some (.int .i64 x.2) := RX 3 _ rfl
                have HX := Lib.hid hgx
                clear hgx RX
                go_wp2_with fail
                obtain ⟨g13, hg13⟩ : ∃ g, g = wr.heap.size := ⟨_, rfl⟩
                have hBx := below_alloc (Below.refl _ wr) (.cells #[.int .u32 (x.1.a : Int), .int .u16 (x.1.e : Int), .int .u16 (x.1.p : Int), .int .i64 x.2] 31)
                have Rg := Row.new wr #[.int .u32 (x.1.a : Int), .int .u16 (x.1.e : Int), .int .u16 (x.1.p : Int), .int .i64 x.2] 31
                have hb1 : bb < g13 := by rw [hg13]; exact HMS.out.lt
                have hb2 : bd < g13 := by rw [hg13]; exact HML.out.lt
                rw [← hg13] at Rg ⊢
                have HMS1 := Lib.hid (HMS.out.below hBx)
                have HML1 := Lib.hid (HML.out.below hBx)
                have HBB1 := Lib.hid (below_then HBB.out hBx)
                have HR1 := Lib.hid (RB.out _ _ HR.out hBx)
                clear hBx hg13 HMS HML HBB HR c0 c1 c2 c3
                generalize wr.alloc (.cells #[.int .u32 (x.1.a : Int), .int .u16 (x.1.e : Int), .int .u16 (x.1.p : Int), .int .i64 x.2] 31) = wz at *
                have hblk : ∀ w', wz.grownBy w' (some bb) → Row w' g13 #[.int .u32 (x.1.a : Int), .int .u16 (x.1.e : Int), .int .u16 (x.1.p : Int), .int .i64 x.2] 31 := fun w' h => (h.block g13 Rg.lt (by intro e; injection e with e; omega)).trans Rg
                have LX1 : ∀ w', wz.grownBy w' (some bb) → w'.rangeAt g13 0 [.int .u32 (x.1.a : Int), .int .u16 (x.1.e : Int), .int .u16 (x.1.p : Int)] := fun w' h j v hv => by
                  rw [Nat.zero_add, (hblk w' h).cell j]
                  rcases j with _ | _ | _ | j
                  · exact hv
                  · exact hv
                  · exact hv
                  · simp at hv
                have LK : ∀ w', wz.grownBy w' (some bb) → MapIs w' Tryz.prog 29 K.val wval bb k (sG ((rt.map sms).take k)) → Calls Tryz.prog 7 #[.map (some bb), .agg #[.int .u32 ((sm x.1).a : Int), .int .u16 ((sm x.1).e : Int), .int .u16 ((sm x.1).p : Int)], .int .i64 x.2] w' fun e w'' => e = .returned (.tuple #[]) ∧ wz.grownBy w'' (some bb) ∧ MapIs w'' Tryz.prog 29 K.val wval bb (k + 1) (sG ((rt.map sms).take (k + 1))) := fun w' h1 h2 => by
                  have hlen := HL.out
                  refine (sumsAdd_any bb k _ (sm x.1) (sm_ok _) x.2 hox.2 (by omega) w' h2).mono ?_
                  rintro _ wy ⟨rfl, hm, hg⟩
                  refine ⟨rfl, h1.trans hg, ?_⟩
                  have e := sG_step ((rt.map sms).take k) (sms x)
                  rw [sG_get] at hm
                  rw [show (rt.map sms).take (k + 1) = (rt.map sms).take k ++ [sms x] by rw [← HX.out]; exact map_take_succ' rt sms mk0 k hlt, ← e]
                  exact hm
                refine region_lits1 (n := 7) 6 1 (by kernel_rfl) (fun c' w' => wz.grownBy w' (some bb) ∧ MapIs w' Tryz.prog 29 K.val wval bb (if c' then k + 1 else k) (sG ((rt.map sms).take (if c' then k + 1 else k)))) (fun i => (#[.map (some bb), .pointer (some ⟨g13, 0, none⟩), .agg #[.int .u32 (x.1.a : Int), .int .u16 (x.1.e : Int), .int .u16 (x.1.p : Int)], .agg #[.int .u32 ((sm x.1).a : Int), .int .u16 ((sm x.1).e : Int), .int .u16 ((sm x.1).p : Int)], .pointer (some ⟨g13, 3, none⟩), .int .i64 x.2, .tuple #[]] : Array Value).getD i undef) (by kernel_rfl) (by kernel_rfl) ⟨⟨rfl, rfl, rfl, Nat.le_refl _, fun _ _ _ => rfl⟩, HMS1.out⟩ rfl ?_
                intro F hF
                simp only [fill, if_true, dstAt] at hF
                simp [Act.put] at hF
                subst hF
                refine ⟨?_, ?_⟩
                · intro i o ho c wx hcm S
                  rcases i with _ | _ | _ | _ | _ | _ | _ | i
                  all_goals (first | (simp at ho; done) | (obtain rfl := Option.some.inj ho))
                  · exact yv_val rfl S (by go_simp)
                  · exact yv_val rfl S (by go_simp)
                  · exact yv_load rfl S _ _ rfl g13 0 rfl (LX1 _ S.1) Tryz.underlying29 rfl (by kernel_rfl)
                  · exact yv_call rfl rfl Tryz.func8 (by kernel_rfl) rfl #[.agg #[.int .u32 (x.1.a : Int), .int .u16 (x.1.e : Int), .int .u16 (x.1.p : Int)]] (by go_simp) ((small_any x.1 hox.1 wx).mono (by rintro _ wy ⟨rfl, hb⟩; exact ⟨rfl, S.1.trans (grown_below hb), S.2.below hb⟩))
                  · exact yv_val rfl S (by go_simp)
                  · have d3 : wx.cell? ⟨g13, 3, none⟩ = some (.int .i64 x.2) := (hblk wx S.1).cell 3
                    exact yv_val rfl S (by go_simp)
                  · obtain rfl : c = false := hcm (by kernel_rfl)
                    exact yv_call rfl rfl Tryz.func7 (by kernel_rfl) rfl #[.map (some bb), .agg #[.int .u32 ((sm x.1).a : Int), .int .u16 ((sm x.1).e : Int), .int .u16 ((sm x.1).p : Int)], .int .i64 x.2] (by go_simp) (LK wx S.1 S.2)
                · intro wy S
                  simp only [if_true] at S
                  have Ry := hblk wy S.1
                  have d0 : wy.cell? ⟨g13, 0, none⟩ = some (.int .u32 (x.1.a : Int)) := Ry.cell 0
                  have d1 : wy.cell? ⟨g13, 1, none⟩ = some (.int .u16 (x.1.e : Int)) := Ry.cell 1
                  have d2 : wy.cell? ⟨g13, 2, none⟩ = some (.int .u16 (x.1.p : Int)) := Ry.cell 2
                  have HMS2 := Lib.hid S.2
                  have HML2 := Lib.hid (HML1.out.grown S.1 (Ne.symm HNE.out))
                  have HBB2 := Lib.hid (below_grown HBB1.out HW1.out S.1)
                  have HR2 := Lib.hid (RG1.out _ _ HR1.out S.1)
                  have ev : IntKind.i64.wrap ((k : Int) + 1) = ((k + 1 : Nat) : Int) := by have := HL.out; rw [IntKind.wrap_i64]; omega
                  clear S Ry LX1 LK hblk Rg HMS1 HML1 HBB1 HR1
                  go_wp2_with fail
                  refine (small_any x.1 hox.1 wy).mono ?_
                  rintro _ w5 ⟨rfl, hb5⟩
                  clear d0 d1 d2
                  have HMS3 := Lib.hid (HMS2.out.below hb5)
                  have HML3 := Lib.hid (HML2.out.below hb5)
                  have HBB3 := Lib.hid (below_then HBB2.out hb5)
                  have HR3 := Lib.hid (RB.out _ _ HR2.out hb5)
                  clear hb5 HMS2 HML2 HBB2 HR2
                  unfold K.val
                  go_wp2_with fail
                  have hcnt : cnt ((rt.map sp).take k) (sp x) ≤ k := Nat.le_trans (cnt_le _ _) (by simp; omega)
                  have hlen := HL.out
                  refine (link_any bd k _ (sm x.1) k1 (sm_ok _) k1_ok (cnt ((rt.map sp).take k) (sp x)) (cG_get _ _) (by omega) (by omega) w5 HML3.out).mono ?_
                  rintro _ w6 ⟨rfl, hm, hg⟩
                  have HMS4 := Lib.hid (HMS3.out.grown hg HNE.out)
                  have HBB4 := Lib.hid (below_grown HBB3.out HW2.out hg)
                  have HR4 := Lib.hid (RG2.out _ _ HR3.out hg)
                  have HML4 : Hid (MapIs w6 Tryz.prog 49 pval lval bd (k + 1) (cG ((rt.map sp).take (k + 1)))) := Lib.hid (by
                    have e := cG_step ((rt.map sp).take k) (sp x)
                    rw [show (rt.map sp).take (k + 1) = (rt.map sp).take k ++ [sp x] by rw [← HX.out]; exact map_take_succ' rt sp mk0 k hlt, ← e]
                    exact hm)
                  clear hm hg hcnt HMS3 HML3 HBB3 HR3
                  go_wp2_with fail
                  exact ⟨⟨k + 1, by omega, rfl, HMS4.out, HML4.out, HBB4.out, HR4.out⟩, by simp [intOf]; omega⟩
              · obtain rfl : k = rt.length := by omega
                have hk0 : ¬ ((rt.length : Int) < (rt.length : Int)) := by omega
                have hms := HMS.out
                have hml := HML.out
                rw [show (rt.map sms).take rt.length = rt.map sms by rw [List.take_of_length_le (by simp)], sG_perm (HPM.out.map sms)] at hms
                rw [show (rt.map sp).take rt.length = rt.map sp by rw [List.take_of_length_le (by simp)], cG_perm (HPM.out.map sp)] at hml
                have hr := HR.out
                rw [HRD.out] at hr
                have HMA := Lib.hid hr.1
                have HMC := Lib.hid hr.2.1
                have HMB := Lib.hid hms
                have HMD := Lib.hid hml
                clear hr hms hml HR HRD HMS HML RB RG1 RG2
                have OKS : Hid (∀ d u, sG (l.map sms) d = some u → K.ok d) := Lib.hid fun d u hd => by
                  obtain ⟨y, hy, rfl⟩ := List.mem_map.1 ((sG_some _ _).1 ⟨u, hd⟩)
                  obtain ⟨z, _, rfl⟩ := List.mem_map.1 hy
                  exact sm_ok _
                have OKP : Hid (∀ d u, cG (l.map sp) d = some u → okp d) := Lib.hid fun d u hd => by
                  obtain ⟨y, hy, rfl⟩ := List.mem_map.1 ((cG_some _ _).1 ⟨u, hd⟩)
                  exact ⟨sm_ok _, k1_ok⟩
                have hN1 : l.length ≤ 1000 := by have := HLL.out; omega
                have hN2 : rt.length ≤ 1000 := by have := HL.out; omega
                have HN1 := Lib.hid hN1
                have HN2 := Lib.hid hN2
                clear hN1 hN2
                go_wp2_with fail
                refine (keys_any ba l.length (sG (l.map sms)) wr HN1.out OKS.out HMA.out).mono ?_
                rintro _ w4 ⟨v, ps, rfl, hnd, hmem, hrise, hP, hb4⟩
                have HMA4 := Lib.hid (HMA.out.below hb4)
                have HMB4 := Lib.hid (HMB.out.below hb4)
                have HMC4 := Lib.hid (HMC.out.below hb4)
                have HMD4 := Lib.hid (HMD.out.below hb4)
                have HB4 := Lib.hid (below_then HBB.out hb4)
                have HOKP : Hid (∀ d, d ∈ ps → K.ok d) := Lib.hid fun d hd => by
                  obtain ⟨u, hu⟩ := (hmem d).1 hd
                  exact OKS.out d u hu
                have hpl : ps.length ≤ 1000 := by
                  have h1 := nodup_len ps ((l.map sms).map (·.1)) hnd (fun d hd => (sG_some _ _).1 ((hmem d).1 hd))
                  have := HN1.out
                  simp at h1
                  omega
                have HPL := Lib.hid hpl
                obtain ⟨pp, pcap, rfl, hP⟩ := hP
                have HP := Lib.hid hP
                have hk2 : (0 : Int) ≤ (ps.length : Int) := by omega
                clear hb4 hnd hmem hrise hP hpl HMA HMB HMC HMD HBB hk0
                go_wp2_with fail
                go_loopw [85] (fun iv wr => ∃ j : Nat, j ≤ ps.length ∧ iv = .int .i64 j ∧ Below w4.heap.size w4 wr) (fun iv _ => ps.length - (intOf iv).toNat)
                case atStart => exact ⟨0, by omega, rfl, Below.refl _ _⟩
                case round =>
                  obtain ⟨j, hj, rfl, BB⟩ := hrel
                  have HBB := Lib.hid BB
                  clear BB
                  by_cases hjt : j < ps.length
                  · as_aux_lemma =>
                      have hj1 : (0 : Int) ≤ (j : Int) := by omega
                      have hj2 : (j : Int) < (ps.length : Int) := by omega
                      obtain ⟨gp, rfl, hpc⟩ : ∃ gp, pp = some ⟨gp, 0, none⟩ ∧ ∀ t u, (kcs ps)[t]? = some u → w4.cell? ⟨gp, t, none⟩ = some u := by
                        rcases HP.out with h | h
                        · exact absurd hjt (by rw [h]; simp)
                        · exact h
                      have cw := fun q hq => ((HBB.out.cell (block_lt_of_cell ((keys_cell hpc j hjt q hq).trans (List.getElem?_eq_getElem (by rw [kc_len]; exact hq))))).trans (keys_cell hpc j hjt q hq))
                      have c0 := cw 0 (by omega)
                      have c1 := cw 1 (by omega)
                      have c2 := cw 2 (by omega)
                      have hokp := HOKP.out _ (getD_mem (d := kk0.1) hjt)
                      generalize ps.getD j kk0.1 = p at *
                      simp only [kc, List.getElem?_cons_zero, List.getElem?_cons_succ] at c0 c1 c2
                      rw [Nat.add_zero] at c0
                      clear hpc cw
                      go_wp2_with fail
                      obtain ⟨g15, hg15⟩ : ∃ g, g = wr.heap.size := ⟨_, rfl⟩
                      have hBx := below_alloc (Below.refl _ wr) (.cells #[.int .u32 (p.a : Int), .int .u16 (p.e : Int), .int .u16 (p.p : Int)] 29)
                      have R15 := Row.new wr #[.int .u32 (p.a : Int), .int .u16 (p.e : Int), .int .u16 (p.p : Int)] 29
                      rw [← hg15] at R15 ⊢
                      have HBB1 := Lib.hid (below_then HBB.out hBx)
                      clear hBx hg15 HBB c0 c1 c2
                      generalize wr.alloc (.cells #[.int .u32 (p.a : Int), .int .u16 (p.e : Int), .int .u16 (p.p : Int)] 29) = wz at *
                      have f0 : ∀ n : QW (fun w' => Below wz.heap.size wz w'), n.w.cell? ⟨g15, 0, none⟩ = some (.int .u32 (p.a : Int)) := fun n => (R15.below n.h).cell 0
                      have f1 : ∀ n : QW (fun w' => Below wz.heap.size wz w'), n.w.cell? ⟨g15, 1, none⟩ = some (.int .u16 (p.e : Int)) := fun n => (R15.below n.h).cell 1
                      have f2 : ∀ n : QW (fun w' => Below wz.heap.size wz w'), n.w.cell? ⟨g15, 2, none⟩ = some (.int .u16 (p.p : Int)) := fun n => (R15.below n.h).cell 2
                      have LOOK : ∀ (bx nn : Nat) (W : World), MapIs W Tryz.prog 29 K.val wval bx nn (sG (l.map sms)) → (Instr.lookup 25 (.map (some bx)) (.agg #[.int .u32 (p.a : Int), .int .u16 (p.e : Int), .int .u16 (p.p : Int)]) false).run Tryz.prog W = .ok (.agg #[.int .i64 (Wd.hi (ssum (l.map sms) p)), .int .u64 (Wd.lo (ssum (l.map sms) p))]) W := fun bx nn W h => by
                        obtain ⟨kl, hkey⟩ := key_of p hokp
                        have h := MapIs.look (enc := K.val) (vl := wval) (e := 44) (t := 25) h (Keyed.of_law lawKey) Tryz.underlying25 val_inj (zero_wide W) p hkey
                        have hval : getV wval (wval 0) (sG (l.map sms) p) = wval (ssum (l.map sms) p) := by
                          rw [← sG_get]
                          cases sG (l.map sms) p <;> rfl
                        rw [hval] at h
                        exact h
                      obtain ⟨hh, hhh⟩ : ∃ x, x = Wd.hi (ssum (l.map sms) p) := ⟨_, rfl⟩
                      obtain ⟨ll, hll⟩ : ∃ x, x = Wd.lo (ssum (l.map sms) p) := ⟨_, rfl⟩
                      rw [← hhh, ← hll] at LOOK
                      have hla : ∀ n : QW (fun w' => Below wz.heap.size wz w'), (Instr.lookup 25 (.map (some ba)) (.agg #[.int .u32 (p.a : Int), .int .u16 (p.e : Int), .int .u16 (p.p : Int)]) false).run Tryz.prog n.w = .ok (.agg #[.int .i64 hh, .int .u64 ll]) n.w := fun n => LOOK ba l.length n.w (HMA4.out.below (below_then HBB1.out n.h))
                      have hlb : ∀ n : QW (fun w' => Below wz.heap.size wz w'), (Instr.lookup 25 (.map (some bb)) (.agg #[.int .u32 (p.a : Int), .int .u16 (p.e : Int), .int .u16 (p.p : Int)]) false).run Tryz.prog n.w = .ok (.agg #[.int .i64 hh, .int .u64 ll]) n.w := fun n => LOOK bb rt.length n.w (HMB4.out.below (below_then HBB1.out n.h))
                      obtain ⟨cn, hcn⟩ : ∃ c, c = cnt (l.map sp) (p, k1) := ⟨_, rfl⟩
                      have s1 : ∀ n : QW (fun w' => Below wz.heap.size wz w'), Calls Tryz.prog 17 #[.map (some bc), .agg #[.int .u32 (p.a : Int), .int .u16 (p.e : Int), .int .u16 (p.p : Int)], .agg #[.int .u32 1, .int .u16 0, .int .u16 0]] n.w fun e w'' => e = .returned (.int .i64 (cn : Int)) ∧ ∃ m : QW (fun w' => Below wz.heap.size wz w'), w'' = m.w := fun n => Calls.quietS ((many_any bc _ _ p k1 hokp k1_ok n.w (HMC4.out.below (below_then HBB1.out n.h))).mono (by rintro _ wy ⟨rfl, hb⟩; exact ⟨by rw [cG_get, hcn], below_then n.h hb⟩))
                      have s2 : ∀ n : QW (fun w' => Below wz.heap.size wz w'), Calls Tryz.prog 17 #[.map (some bd), .agg #[.int .u32 (p.a : Int), .int .u16 (p.e : Int), .int .u16 (p.p : Int)], .agg #[.int .u32 1, .int .u16 0, .int .u16 0]] n.w fun e w'' => e = .returned (.int .i64 (cn : Int)) ∧ ∃ m : QW (fun w' => Below wz.heap.size wz w'), w'' = m.w := fun n => Calls.quietS ((many_any bd _ _ p k1 hokp k1_ok n.w (HMD4.out.below (below_then HBB1.out n.h))).mono (by rintro _ wy ⟨rfl, hb⟩; exact ⟨by rw [cG_get, hcn], below_then n.h hb⟩))
                      have HS1 := Lib.hid s1
                      have HS2 := Lib.hid s2
                      clear s1 s2 LOOK hhh hll hcn
                      have ev : IntKind.i64.wrap ((j : Int) + 1) = ((j + 1 : Nat) : Int) := by have := HPL.out; rw [IntKind.wrap_i64]; omega
                      refine region_quietS (fun w' => Below wz.heap.size wz w') (by kernel_rfl) (by kernel_rfl) (below_dr (Below.refl _ _)) (fun hne => ?_)
                      repeat (go_big_quiet_step (first | (with_reducible exact HS1.out _) | (with_reducible exact HS2.out _)))
                      refine wpQuiet_nil ?_
                      intro _ hw'
                      obtain ⟨⟨wy, S⟩, rfl⟩ := hw'
                      clear f0 f1 f2 hla hlb
                      go_wp2_with fail
                      exact ⟨⟨j + 1, by omega, rfl, below_then HBB1.out S⟩, by simp [intOf]; omega⟩
                  · as_aux_lemma =>
                      obtain rfl : j = ps.length := by omega
                      have hk0 : ¬ ((ps.length : Int) < (ps.length : Int)) := by omega
                      have b0 := HBB.out
                      clear HBB
                      have G0 := Lib.hid b0
                      clear b0
                      go_wp2_with fail
                      refine (keys_any ba l.length (sG (l.map sms)) wr HN1.out OKS.out (HMA4.out.below G0.out)).mono ?_
                      rintro _ w5 ⟨v1, q1, rfl, nd1, mem1, rise1, P1, hbb1⟩
                      have G1 := Lib.hid (below_then G0.out hbb1)
                      have X1 := Lib.hid (And.intro nd1 (And.intro mem1 (And.intro rise1 P1)))
                      clear nd1 mem1 rise1 P1 hbb1
                      go_wp2_with fail
                      refine (keys_any bb rt.length (sG (l.map sms)) w5 HN2.out OKS.out (HMB4.out.below G1.out)).mono ?_
                      rintro _ w6 ⟨v2, q2, rfl, nd2, mem2, rise2, P2, hbb2⟩
                      have G2 := Lib.hid (below_then G1.out hbb2)
                      obtain rfl : q2 = q1 := keys_one q2 q1 nd2 X1.out.1 (fun c => (mem2 c).trans (X1.out.2.1 c).symm) rise2 X1.out.2.2.1 (fun c hc => by obtain ⟨u, hu⟩ := (mem2 c).1 hc; exact OKS.out c u hu)
                      have hq : q2.length ≤ 1000 := by
                        have h1 := nodup_len q2 ((l.map sms).map (·.1)) nd2 (fun d hd => (sG_some _ _).1 ((mem2 d).1 hd))
                        have := HN1.out
                        simp at h1
                        omega
                      have XE := Lib.hid (equalK_same v1 v2 q2 w6 (X1.out.2.2.2.below hbb2) P2 hq)
                      clear nd2 mem2 rise2 P2 hbb2 hq
                      go_wp2_with fail
                      refine XE.out.mono ?_
                      rintro _ w7 ⟨rfl, hb7⟩
                      have G3 := Lib.hid (below_then G2.out hb7)
                      clear hb7 XE X1
                      go_wp2_with fail
                      refine (pairs_any bc l.length (cG (l.map sp)) w7 HN1.out OKP.out (HMC4.out.below G3.out)).mono ?_
                      rintro _ w8 ⟨v3, q3, rfl, nd3, mem3, rise3, P3, hbb3⟩
                      have G4 := Lib.hid (below_then G3.out hbb3)
                      have X3 := Lib.hid (And.intro nd3 (And.intro mem3 (And.intro rise3 P3)))
                      clear nd3 mem3 rise3 P3 hbb3
                      go_wp2_with fail
                      refine (pairs_any bd rt.length (cG (l.map sp)) w8 HN2.out OKP.out (HMD4.out.below G4.out)).mono ?_
                      rintro _ w9 ⟨v4, q4, rfl, nd4, mem4, rise4, P4, hbb4⟩
                      have G5 := Lib.hid (below_then G4.out hbb4)
                      obtain rfl : q4 = q3 := pairs_one q4 q3 nd4 X3.out.1 (fun c => (mem4 c).trans (X3.out.2.1 c).symm) rise4 X3.out.2.2.1 (fun c hc => by obtain ⟨u, hu⟩ := (mem4 c).1 hc; exact OKP.out c u hu)
                      have hq : q4.length ≤ 1000 := by
                        have h1 := nodup_len q4 (l.map sp) nd4 (fun d hd => (cG_some _ _).1 ((mem4 d).1 hd))
                        have := HN1.out
                        simp at h1
                        omega
                      have XE := Lib.hid (equalP_same v3 v4 q4 w9 (X3.out.2.2.2.below hbb4) P4 hq)
                      clear nd4 mem4 rise4 P4 hbb4 hq
                      go_wp2_with fail
                      refine XE.out.mono ?_
                      rintro _ w10 ⟨rfl, hb10⟩
                      have G6 := Lib.hid (below_then G5.out hb10)
                      clear hb10 XE X3
                      go_wp2_with fail
                      refine (pairs_any bc l.length (cG (l.map sp)) w10 HN1.out OKP.out (HMC4.out.below G6.out)).mono ?_
                      rintro _ w11 ⟨v5, q5, rfl, nd5, mem5, rise5, P5, hbb5⟩
                      have G7 := Lib.hid (below_then G6.out hbb5)
                      obtain ⟨pp5, cap5, rfl, _⟩ := P5
                      have X5 := Lib.hid (And.intro nd5 mem5)
                      clear nd5 mem5 rise5 hbb5
                      go_wp2_with fail
                      refine (keys_any ba l.length (sG (l.map sms)) w11 HN1.out OKS.out (HMA4.out.below G7.out)).mono ?_
                      rintro _ w12 ⟨v6, q6, rfl, nd6, mem6, rise6, P6, hbb6⟩
                      have G8 := Lib.hid (below_then G7.out hbb6)
                      obtain ⟨pp6, cap6, rfl, _⟩ := P6
                      have hlen : q5.length = q6.length := by
                        have h1 := perm_len q5 (q6.map fun c => (c, k1)) X5.out.1 (nodup_map _ (fun c d e => by injection e) q6 nd6) (fun c => by
                          rw [X5.out.2 c, cG_some]
                          constructor
                          · intro h
                            obtain ⟨x, hx, rfl⟩ := List.mem_map.1 h
                            exact List.mem_map.2 ⟨sm x.1, (mem6 _).2 ((sG_some _ _).2 (by rw [List.map_map]; exact List.mem_map.2 ⟨x, hx, rfl⟩)), rfl⟩
                          · intro h
                            obtain ⟨d, hd, rfl⟩ := List.mem_map.1 h
                            have h2 := (sG_some _ _).1 ((mem6 d).1 hd)
                            rw [List.map_map] at h2
                            obtain ⟨x, hx, rfl⟩ := List.mem_map.1 h2
                            exact List.mem_map.2 ⟨x, hx, rfl⟩)
                        simpa using h1
                      rw [hlen]
                      clear nd6 mem6 rise6 hbb6 hlen X5
                      go_wp2_with fail
                      go_ret
                      exact ⟨rfl, below_then HB4.out G8.out⟩
end Go.Proofs.YtahagfdjpldblaaGreatDoor
